/- Calls that write what the caller hands over: one argument is memory of the caller's own, lent to be written or given for good. No condition. -/
import Derived.Test.YteeklekfafedcaaV15
set_option linter.unusedVariables false
namespace Go.Proofs.Yteeklekfafedcaa.V
open Go Go.RowKit

/-- memory handed over, or a value in frozen memory -/
def GRep (w : World) (Z F : Nat → Prop) : PV → Value → Prop
  | .root k s f x, v => ∃ cs ad, ∃ B : Nat → Prop, RootAt w k s v cs ad ∧ (∀ b, B b → F b) ∧ (∀ A, ad = some A → ¬ B A.block ∧ F A.block) ∧ Rep w Z s f x cs B
  | pv, v => ARep w Z pv v

/-- what stood is as it was, but for the blocks of F -/
structure ExtF (w w' : World) (F : Nat → Prop) : Prop where
  os : w'.os = w.os
  tape : w'.tape = w.tape
  output : w'.output = w.output
  size : w.heap.size ≤ w'.heap.size
  block : ∀ b, b < w.heap.size → ¬ F b → w'.heap[b]? = w.heap[b]?

/-- the function, called with such arguments, the i-th handed over, returns; R tells the result and what is left of the argument -/
structure VX (P : Program) (f : FuncId) (args : List PV) (i : Nat) (R : PV → PV → Prop) : Prop where
  fn : ∃ fn, P.funcs[f]? = some fn ∧ fn.body.isSome = true ∧ (fn.name == "runtime.NumGoroutine") = false
  run : ∀ (Z F : Nat → Prop) (w : World) (vals : List Value), (∀ b, Z b → b < w.heap.size) → (∀ b, F b → b < w.heap.size ∧ ¬ Z b) → vals.length = args.length →
    (∀ (j : Nat) (pv : PV) (v : Value), j ≠ i → args[j]? = some pv → vals[j]? = some v → ARep w Z pv v) → (∀ (pv : PV) (v : Value), args[i]? = some pv → vals[i]? = some v → GRep w Z F pv v) →
    Calls P f vals.toArray w fun e w' => ∃ v pv o, ∃ Fr Fo : Nat → Prop, e = .returned v ∧ ExtF w w' F ∧ R pv o ∧ GRep w' Z Fr pv v ∧ (∀ u, vals[i]? = some u → o = .dead ∨ GRep w' Z Fo o u) ∧
      (∀ b, Fr b ∨ Fo b → (F b ∨ w.heap.size ≤ b) ∧ b < w'.heap.size) ∧ ∀ b, Fr b → ¬ Fo b

theorem VX.mono {P : Program} {f : FuncId} {args : List PV} {i : Nat} {R R' : PV → PV → Prop} (h : VX P f args i R) (k : ∀ pv o, R pv o → R' pv o) : VX P f args i R' :=
  ⟨h.fn, fun Z F w vals h1 h2 h3 h4 h5 => (h.run Z F w vals h1 h2 h3 h4 h5).mono fun e w' ⟨v, pv, o, Fr, Fo, q1, q2, q3, q4⟩ => ⟨v, pv, o, Fr, Fo, q1, q2, k pv o q3, q4⟩⟩

section
variable {P : Program} {o : Oper} {L L1 : Lay} {st st1 : St} {a : Act} {w w' : World} {R : Nat → Prop} {T : List (Nat × TI)} {rt : St} {out : Out}

theorem Rel.withR (h : Rel L st a w R) {R' : Nat → Prop} (k : ∀ b, R' b → b < w.heap.size ∧ ¬ L.Z b ∧ ∀ t, ¬ L.F t b) : Rel L st a w R' :=
  ⟨h.size, h.defers, h.zlt, h.flt, h.dj, fun b hb => ⟨(k b hb).1, (k b hb).2.1⟩, fun t b hb hr => (k b hr).2.2 t hb, h.tmp⟩

theorem Rel.extF (h : Rel L st a w R) {F : Nat → Prop} (hx : ExtF w w' F) (hF : ∀ b, F b → ¬ L.Z b ∧ ∀ t, ¬ L.F t b) : Rel L st a w' R :=
  h.ext hx.size (fun b hb => hx.block b (by rcases hb with hb | ⟨t, hb⟩; exact h.zlt b hb; exact (h.flt t b hb).1) (fun hf => by
    rcases hb with hb | ⟨t, hb⟩
    · exact (hF b hf).1 hb
    · exact (hF b hf).2 t hb))

/-- the arguments, the i-th handed over as pv -/
def lendX (st : St) (pv : PV) : Nat → List Operand → Option (List PV × Bool)
  | _, [] => none
  | 0, _ :: r => match lendAll st st r with
    | some (ps, c) => some (pv :: ps, c)
    | none => none
  | i + 1, x :: r => match lend st (ref st x), lendX st pv i r with
    | some (q, b), some (ps, c) => some (q :: ps, b || c)
    | _, _ => none

theorem lendX_ok (h : Rel L st a w R) {pv : PV} : ∀ (i : Nat) (xs : List Operand) {ps : List PV} {b : Bool}, lendX st pv i xs = some (ps, b) → ps.length = xs.length ∧ ps[i]? = some pv ∧ ∀ (j : Nat) (q : PV) (v : Value), j ≠ i → ps[j]? = some q → (xs.map a.eval)[j]? = some v → ARep w (zoneOf L b) q v
  | i, [], ps, b, hl => by simp [lendX] at hl
  | 0, x :: r, ps, b, hl => by
    simp only [lendX] at hl
    split at hl
    · rename_i ps' c h1
      obtain ⟨rfl, rfl⟩ := Prod.mk.inj (Option.some.inj hl)
      obtain ⟨q1, q2⟩ := lendAll_ok h (fun _ _ _ _ _ h => h) r h1
      refine ⟨by simp [q1], rfl, fun j q v hj hi hv => ?_⟩
      cases j with
      | zero => exact absurd rfl hj
      | succ j =>
        simp only [List.getElem?_cons_succ, List.map_cons] at hi hv
        exact q2 j q v hi hv
    · cases hl
  | i + 1, x :: r, ps, b, hl => by
    simp only [lendX] at hl
    split at hl
    · rename_i q0 b1 ps' c1 h1 h2
      obtain ⟨rfl, rfl⟩ := Prod.mk.inj (Option.some.inj hl)
      obtain ⟨q1, q2, q3⟩ := lendX_ok h i r h2
      refine ⟨by simp [q1], by simpa using q2, fun j q v hj hi hv => ?_⟩
      cases j with
      | zero =>
        simp only [List.getElem?_cons_zero, Option.some.injEq, List.map_cons] at hi hv
        subst hi; subst hv
        exact (lend_ok h (fun _ _ _ _ _ h => h) (h.opnd x) h1).mono (zone_mono (fun e => by simp [e]) L)
      | succ j =>
        simp only [List.getElem?_cons_succ, List.map_cons] at hi hv
        exact (q3 j q v (by omega) hi hv).mono (zone_mono (fun e => by simp [e]) L)
    · cases hl

theorem mkV_inj {agg : Bool} {c1 c2 : List Value} {v : Value} (h1 : mkV agg c1 v) (h2 : mkV agg c2 v) : c1 = c2 := by
  cases agg with
  | true =>
    simp only [mkV, if_true] at h1 h2
    rw [h1] at h2
    have : c1.toArray = c2.toArray := by injection h2
    simpa using this
  | false =>
    simp only [mkV, Bool.false_eq_true, if_false] at h1 h2
    rw [h1, h2]

/-- the end of a call: the result's slot -/
theorem Rel.result (h : Rel L st a w R) {Z' Fr : Nat → Prop} {pv : PV} {v : Value} {lent : Bool} (hz : lent = false → ∀ b, Z' b → L.Z b) (hg : GRep w Z' Fr pv v) (hok : okRes lent pv = true) (hFr : ∀ b, Fr b → R b) {d : Option Tmp} (hd : nonroot st d = true) :
    ∃ L', L'.Z = L.Z ∧ (∀ t b, L'.F t b → L.F t b ∨ Fr b) ∧ Rel L' (setD st d pv) (a.put d v) w Free := by
  have hold : ∀ n, Fr n → n < w.heap.size ∧ ¬ L.Z n ∧ ∀ t, ¬ L.F t n := fun n hn => ⟨(h.rlt n (hFr n hn)).1, (h.rlt n (hFr n hn)).2, fun t ht => h.rdj t n ht (hFr n hn)⟩
  rcases PV.root_or pv with ⟨k, s, fl, x, rfl⟩ | hpv
  · obtain ⟨cs', ad, B, g1, g2, g3, g4⟩ := hg
    have g4 : Rep w L.Z s fl x cs' B := by
      cases hl : lent with
      | true => exact g4.nofz (by simpa [okRes, hl] using hok)
      | false => exact g4.frame (hz hl) (fun _ _ => rfl)
    cases d with
    | none => exact ⟨L, rfl, fun t b hb => .inl hb, h.freeR (fun _ h => h.elim)⟩
    | some d =>
      refine ⟨L.set d Fr cs' ad, rfl, fun t b hb => ?_, h.setR (nonroot_spec hd d rfl) g1 g2 g3 g4 hold (fun n hn => hn.elim)⟩
      simp only [Lay.set] at hb
      split at hb
      · exact .inr hb
      · exact .inl hb
  · have ho' : ORep L st w pv v := by
      cases pv with
      | v agg s x =>
        obtain ⟨cs', g1, g2⟩ := (hg : ARep w _ (.v agg s x) v)
        refine ⟨cs', g1, ?_⟩
        cases hl : lent with
        | true => exact g2.plain (by simpa [okRes, hl] using hok)
        | false => exact g2.frame (hz hl) (fun _ _ => rfl)
      | emp => exact hg
      | fadr s x =>
        have hl : lent = false := by
          have : (!lent) = true := hok
          simpa using this
        exact FaRep.ext (hz hl) (fun _ _ => rfl) (hg : FaRep w _ s x v)
      | fn f2 caps2 =>
        have hl : lent = false := by
          have : (!lent) = true := hok
          simpa using this
        obtain ⟨vs2, g1, g2, g3⟩ := (hg : ARep w _ (.fn f2 caps2) v)
        refine ⟨vs2, g1, g2, fun i c u hc hu => ?_⟩
        obtain ⟨s, x, rfl, g4⟩ := g3 i c u hc hu
        exact FaRep.ext (hz hl) (fun _ _ => rfl) g4
      | dead => exact hg.elim
      | h => exact (hg : False).elim
      | adr => exact (hg : False).elim
      | root => cases hpv
    cases d with
    | none => exact ⟨L, rfl, fun t b hb => .inl hb, h.freeR (fun _ h => h.elim)⟩
    | some d => exact ⟨L, rfl, fun t b hb => .inl hb, (h.setO (nonroot_spec hd d rfl) hpv ho').freeR (fun _ h => h.elim)⟩

/-- the arguments of a call, one handed over -/
theorem callx_vals {Z' : Nat → Prop} {fop : Operand} {args : Array Operand} {ts : Array TypeId} {f : FuncId} {caps cs : List Cap} {ps : List PV} {b : Bool} {i : Nat} {pvi : PV} {X : PV → PV → Prop} (h : Rel L1 st1 a w R) (ho : o.op = .call ⟨.value fop, args, ts⟩) (hf : ref st1 fop = .fn f caps) (hcs : lendCaps st1 caps = some cs)
    (hps : lendX st1 pvi i args.toList = some (ps, b)) (hv : VX P f (ps ++ cs.map capPV) i X) (hZ : Z' = zoneOf L1 (b || caps.any isAdr)) {F : Nat → Prop} (hF : ∀ n, F n → n < w.heap.size ∧ ¬ Z' n) (hg : ∀ x, args.toList[i]? = some x → GRep w Z' F pvi (a.eval x)) :
    ∃ vals : List Value, (∀ x, args.toList[i]? = some x → vals[i]? = some (a.eval x)) ∧ (execOp a.eval o).run P w = .ok (.enter f vals.toArray) w ∧ Calls P f vals.toArray w fun e w' => ∃ v pv o, ∃ Fr Fo : Nat → Prop, e = .returned v ∧ ExtF w w' F ∧ X pv o ∧ GRep w' Z' Fr pv v ∧ (∀ u, vals[i]? = some u → o = .dead ∨ GRep w' Z' Fo o u) ∧
      (∀ b, Fr b ∨ Fo b → (F b ∨ w.heap.size ≤ b) ∧ b < w'.heap.size) ∧ ∀ b, Fr b → ¬ Fo b := by
  have hfv := h.opnd fop
  rw [hf] at hfv
  obtain ⟨vs, q1, q2, q3⟩ := hfv
  obtain ⟨l1, l3, l2⟩ := lendX_ok h _ _ hps
  obtain ⟨m1, m2⟩ := lendCaps_ok h (fun _ _ _ _ _ h => h) caps hcs
  have l1' : ps.length = args.size := by simpa using l1
  obtain ⟨fn, f1, f2, f3⟩ := hv.fn
  have f3' : ¬ fn.name = "runtime.NumGoroutine" := by simpa using f3
  obtain ⟨body, hbody⟩ := Option.isSome_iff_exists.1 f2
  have hil : i < args.size := by
    have := (List.getElem?_eq_some_iff.1 l3).1
    omega
  have hval : ∀ x, args.toList[i]? = some x → (args.toList.map a.eval ++ vs)[i]? = some (a.eval x) := fun x hx => by
    rw [List.getElem?_append_left (by simpa using hil), List.getElem?_map, hx]; rfl
  refine ⟨args.toList.map a.eval ++ vs, hval, ?_, ?_⟩
  · have e : (args.toList.map a.eval ++ vs).toArray = args.map a.eval ++ vs.toArray := by apply Array.ext'; simp
    rw [e]
    simp [execOp, ho, resolve, q1, Deferred.ofValue, invoke, callFunc, f1, f3', hbody]
  · have hzl : ∀ n, Z' n → n < w.heap.size := fun n hn => by
      rw [hZ] at hn
      rcases hn with hn | ⟨_, t, hn⟩
      · exact h.zlt n hn
      · exact (h.flt t n hn).1
    refine hv.run Z' F w _ hzl hF (by simp [l1, m1, q2]) (fun j pv v hj hi hvv => ?_) (fun pv v hi hvv => ?_)
    · subst hZ
      by_cases hlt : j < ps.length
      · rw [List.getElem?_append_left hlt] at hi
        rw [List.getElem?_append_left (by simp; omega)] at hvv
        exact (l2 j pv v hj hi hvv).mono (zone_mono (fun e => by simp [e]) L1)
      · rw [List.getElem?_append_right (by omega)] at hi
        rw [List.getElem?_append_right (by simp; omega)] at hvv
        rw [List.getElem?_map] at hi
        obtain ⟨c, hc, rfl⟩ := Option.map_eq_some_iff.1 hi
        obtain ⟨s, x, rfl, m3⟩ := m2 _ c hc
        have hlt : j - ps.length < caps.length := by rw [← m1]; exact (List.getElem?_eq_some_iff.1 hc).1
        have e : (args.toList.map a.eval).length = ps.length := by simp [l1]
        rw [e] at hvv
        exact FaRep.ext (zone_mono (fun e => by simp [e]) L1) (fun _ _ => rfl) (m3 _ (List.getElem?_eq_getElem hlt) v (q3 _ _ v (List.getElem?_eq_getElem hlt) hvv))
    · rw [List.getElem?_append_left (by omega), l3] at hi
      obtain rfl := Option.some.inj hi
      have hx : args.toList[i]? = some (args.toList[i]'(by simpa using hil)) := List.getElem?_eq_getElem _
      rw [hval _ hx] at hvv
      obtain rfl := Option.some.inj hvv
      exact hg _ hx

theorem take_shape {st st1 : St} {g : Nat} {k : RK} {s0 : Sh} {f0 : Fl} {x0 : s0.ty} (hg : st.at g = .root k s0 f0 x0) {p : Path} {s1 s : Sh} {f1 fl : Fl} {x1 : s1.ty} {x : s.ty} (hget : get s0 f0 x0 p = some ⟨s1, f1, x1⟩) (hj : take st g p = some (⟨s, fl, x⟩, st1)) : s1 = s := by
  have aux : ∀ o : Option St, (match o with | some st' => some ((⟨s1, f1, x1⟩ : (s : Sh) × Fl × s.ty), st') | none => none) = some (⟨s, fl, x⟩, st1) → s1 = s := by
    intro o ho
    cases o with
    | none => cases ho
    | some st' =>
      have := (Prod.mk.inj (Option.some.inj ho)).1
      exact congrArg Sigma.fst this
  unfold V.take at hj
  rw [hg] at hj
  cases k with
  | val agg =>
    cases p with
    | nil =>
      rw [get_nil] at hget
      cases Option.some.inj hget
      simp only at hj
      exact congrArg Sigma.fst (Prod.mk.inj (Option.some.inj hj)).1
    | cons a p =>
      simp only [hget] at hj
      exact aux _ hj
  | box t => simp only [hget] at hj; exact aux _ hj
  | ibox t b => simp only [hget] at hj; exact aux _ hj
  | tup t => simp only [hget] at hj; exact aux _ hj

/-- what may go back to the receiver: nothing frozen, but what was frozen there before -/
def keepZ : (s : Sh) → Fl → s.ty → Fl → s.ty → Prop
  | .pr a b, f', x', f, x => keepZ a f'.l x'.1 f.l x.1 ∧ keepZ b f'.r x'.2 f.r x.2
  | .sl e s, f', x', f, x => Fl.nofz (.sl e s) f' = true ∨ match f' with
    | .kz A c => f = .kz A c ∧ (x' : List s.ty) = x
    | _ => False
  | _, _, _, _, _ => True
theorem Rep.keepZ {w w' : World} {Z Z' : Nat → Prop} (hw : ∀ b, Z b → w'.heap[b]? = w.heap[b]?) : ∀ {s : Sh} {f' f : Fl} {x' x : s.ty} {cs cs0 : List Value} {B B0 : Nat → Prop}, V.keepZ s f' x' f x → Rep w Z s f x cs0 B0 → Rep w' Z' s f' x' cs B → Rep w' Z s f' x' cs B
  | .unit, _, _, _, _, _, _, _, _, _, _, h => h
  | .int _, _, _, _, _, _, _, _, _, _, _, h => h
  | .bool, _, _, _, _, _, _, _, _, _, _, h => h
  | .str, _, _, _, _, _, _, _, _, _, _, h => h
  | .pr a b, _, _, _, _, _, _, _, _, k, ⟨c1, c2, B1, B2, h0, h1, h2, h3, h4, h5⟩, ⟨d1, d2, E1, E2, e0, e1, e2, e3, e4, e5⟩ => ⟨d1, d2, E1, E2, e0, e1, e2, e3, Rep.keepZ hw k.1 h4 e4, Rep.keepZ hw k.2 h5 e5⟩
  | .sl e s, f', f, x', x, cs, cs0, B, B0, k, h0, h => by
    rcases k with k | k
    · exact h.nofz k
    · cases f' with
      | kz A c =>
        obtain ⟨rfl, rfl⟩ := k
        have e1 := h.2
        have e2 := h0.2
        refine ⟨?_, e1⟩
        have := (Rep.frame (s := .sl e s) (f := .fz) (w' := w') (Z' := Z) (B := fun _ => False) (fun _ h => h) (fun b hb => hw b (hb.elim id False.elim)) h0.1)
        rw [e1, ← e2]
        exact this
      | _ => exact k.elim

/-- what is left of the argument goes back to its place -/
def xback (st1 : St) (g : Nat) (p : Path) (k0 : RK) (s : Sh) (fl : Fl) (x : s.ty) (lent : Bool) (kill : Nat → Path → PV → PV) (o : PV) (K : St → Prop) : Prop :=
  match o with
  | .root k s' f' x' => k = k0 ∧ (match castTo s' s x' with | some y => lent = true → keepZ s f' y fl x | none => False) ∧ match put st1 g p s' f' x' kill with
    | some st2 => K st2
    | none => False
  | _ => False

theorem below_self (p : Path) : below p p = false := by simp [below, pre_refl]

theorem put_spec {st st1 : St} {g : Nat} {k : RK} {s0 : Sh} {f0 : Fl} {x0 : s0.ty} (hg : st.at g = .root k s0 f0 x0) {p : Path} {s : Sh} {f : Fl} {x : s.ty} {kill : Nat → Path → PV → PV} (hj : put st g p s f x kill = some st1) : ∃ f3 x3, upd s f x s0 f0 x0 p = some (f3, x3) ∧ st1 = (st.map (kill g p)).set g (.root k s0 f3 x3) := by
  unfold V.put at hj
  rw [hg] at hj
  simp only at hj
  split at hj
  · rename_i f3 x3 hu
    exact ⟨f3, x3, hu, (Option.some.inj hj).symm⟩
  · cases hj

theorem does_io {fop : Operand} {args : Array Operand} {ts : Array TypeId} {f : FuncId} {caps cs : List Cap} {ps : List PV} {b : Bool} {i : Nat} {agg : Bool} {g : Nat} {p : Path} {s : Sh} {fl : Fl} {x : s.ty} {X : PV → PV → Prop} {K : St → PV → Prop} {xo : Operand} (ho : o.op = .call ⟨.value fop, args, ts⟩)
    (hxo : args.toList[i]? = some xo) (hx : ref st xo = .h agg g p) (hl : look st g p = some ⟨s, fl, x⟩) (hj : put st g p s .junk x hitS = some st1) (hf : ref st1 fop = .fn f caps) (hcs : lendCaps st1 caps = some cs) (hps : lendX st1 (.root (.val agg) s fl x) i args.toList = some (ps, b))
    (hv : VX P f (ps ++ cs.map capPV) i X) (hk0 : ∀ pv ot, X pv ot → okRes (b || caps.any isAdr) pv = true ∧ xback st1 g p (.val agg) s fl x (b || caps.any isAdr) hitS ot (fun st2 => nonroot st2 o.dst = true ∧ K st2 pv)) : Does P o st (fun st' => ∃ st2 pv, K st2 pv ∧ st' = setD st2 o.dst pv) := by
  intro L a w next Q h hk
  have hv0 := h.opnd xo
  rw [hx] at hv0
  obtain ⟨s1, cs1, ad1, hP, hm, hsl⟩ := hv0
  obtain rfl := hP.shape hl
  obtain ⟨k, s0, f0, x0, hg, hOk, hget, hsub⟩ := id hP
  obtain ⟨f1, x1, e1, B1, e2, e3, e4, e5, e6⟩ := h.put hg hP
  have hl' : get s0 f0 x0 p = some ⟨s, fl, x⟩ := by unfold look at hl; rw [hg] at hl; exact hl
  rw [hl'] at e1
  cases Option.some.inj e1
  obtain ⟨f3, x3, hu, hst1⟩ := put_spec hg hj
  have r1 := e6 w cs1 .junk x (fun _ => False) B1 f3 x3 hitS (.inl ⟨rfl, rfl⟩) rfl e3.tojunk (fun _ h => h.elim) (fun b hb => ⟨.inr hb, id⟩) hu (.inr ⟨rfl, rfl⟩)
  rw [← hst1] at r1
  generalize hL1 : (⟨L.Z, fun t b => if t = g then (L.F g b ∧ ¬ B1 b) ∨ False else L.F t b, fun t => if t = g then csub s0 (L.C g) p cs1 else L.C t, L.D⟩ : Lay) = L1 at r1
  have hL1F : ∀ t n, L1.F t n → L.F t n := by
    intro t n hn
    rw [← hL1] at hn
    simp only at hn
    split at hn
    · rename_i e; subst e; exact hn.elim (fun q => q.1) False.elim
    · exact hn
  have hL1Z : L1.Z = L.Z := by rw [← hL1]
  have hg1 : st1.at g = .root k s0 f3 x3 := by
    rw [hst1, St.at_set, if_pos ⟨rfl, by rw [List.length_map]; exact root_lt hg⟩]
  obtain ⟨w1, f4, x4, w2⟩ := upd_other p p hu (below_self p) hOk hl'
  have hP1 : Place L1 st1 w g p s cs1 ad1 := by
    refine ⟨k, s0, f3, x3, hg1, w1, ⟨f4, x4, w2⟩, ?_⟩
    rw [← hL1]
    simp only [if_true]
    rw [csub_self p hsub]
    exact hsub
  generalize hlent : (b || caps.any isAdr) = lent at hk0
  have hnF : ∀ n, B1 n → ¬ L1.Z n ∧ ∀ t, ¬ L1.F t n := fun n hn => ⟨(r1.rlt n hn).2, fun t ht => r1.rdj t n ht hn⟩
  obtain ⟨vals, k1, k2, k3⟩ := callx_vals (F := B1) r1 ho hf hcs hps hv rfl (fun n hn => ⟨(r1.rlt n hn).1, fun hz => hz.elim (hnF n hn).1 fun q => by obtain ⟨t, ht⟩ := q.2; exact (hnF n hn).2 t ht⟩) (fun y hy => by
    rw [hxo] at hy
    obtain rfl := Option.some.inj hy
    exact ⟨cs1, none, B1, ⟨hm, hsl, rfl⟩, fun _ h => h, (fun A hA => by cases hA), e3.frame (fun n hn => .inl (by rw [hL1Z]; exact hn)) (fun _ _ => rfl)⟩)
  rw [hlent] at k3
  unfold Oper.wp
  rw [k2]
  rw [Oper.upon_enter]
  refine k3.mono fun e w' ⟨v, pv, ot, Fr, Fo, c1, c2, c3, c4, c5, c6, c7⟩ => ?_
  subst c1
  show next (a.put o.dst v) w'
  obtain ⟨hok, hb⟩ := hk0 pv ot c3
  unfold xback at hb
  split at hb
  · rename_i k' s' f' x'
    obtain ⟨rfl, hnf, hb⟩ := hb
    obtain ⟨y, hy, hnf⟩ : ∃ y, castTo s' s x' = some y ∧ (lent = true → keepZ s f' y fl x) := by
      split at hnf
      · rename_i y hy; exact ⟨y, hy, hnf⟩
      · exact hnf.elim
    obtain ⟨rfl, hy⟩ := castTo_some hy
    simp only at hy
    subst hy
    split at hb
    · rename_i st2 hput
      have hfr : ∀ n, Fr n ∨ Fo n → n < w'.heap.size ∧ ¬ L1.Z n ∧ ∀ t, ¬ L1.F t n := fun n hn => by
        obtain ⟨q1, q2⟩ := c6 n hn
        refine ⟨q2, ?_⟩
        rcases q1 with q1 | q1
        · exact hnF n q1
        · exact ⟨fun hz => by have := r1.zlt n hz; omega, fun t ht => by have := (r1.flt t n ht).1; omega⟩
      have r2 : Rel L1 st1 a w' (fun n => Fr n ∨ Fo n) := (r1.extF c2 hnF).withR hfr
      have hP2 : Place L1 st1 w' g p s' cs1 ad1 := hP1.ext r1 (fun n hn => c2.block n (by
        rcases hn with hn | ⟨t, hn⟩
        · exact r1.zlt n hn
        · exact (r1.flt t n hn).1) (fun hB => by
        rcases hn with hn | ⟨t, hn⟩
        · exact (hnF n hB).1 hn
        · exact (hnF n hB).2 t hn))
      obtain ⟨cs2, ad2, B2, g1, g2, g3, g4⟩ := (c5 _ (k1 _ hxo)).resolve_left (by simp)
      obtain rfl : cs2 = cs1 := mkV_inj g1.1 hm
      have g4 : Rep w' L1.Z s' f' x' cs2 B2 := by
        cases lent with
        | true => exact Rep.keepZ (fun b hb => c2.block b (r1.zlt b hb) (fun hB => (hnF b hB).1 hb)) (hnf rfl) (by rw [hL1Z]; exact e3) g4
        | false => exact g4.frame (fun n hn => hn.elim id fun q => by cases q.1) (fun _ _ => rfl)
      obtain ⟨f5, x5, d1, B5, d2, d3, d4, d5, d6⟩ := r2.put hg1 hP2
      obtain ⟨f6, x6, hu2, hst2⟩ := put_spec hg1 hput
      have r3 := d6 w' cs2 f' x' B2 Fr f6 x6 hitS (.inl ⟨rfl, rfl⟩) rfl g4 (fun n hn => .inl (.inr (g2 n hn))) (fun n hn => ⟨.inl (.inl hn), fun h2 => c7 n hn (g2 n h2)⟩) hu2 (.inr ⟨rfl, rfl⟩)
      rw [← hst2] at r3
      obtain ⟨L', z1, z2, z3⟩ := r3.result (lent := lent) (fun e n hn => by subst e; exact hn.elim id fun q => by cases q.1) c4 hok (fun _ h => h) hb.1
      refine hk _ L' _ w' ⟨st2, pv, hb.2, rfl⟩ ⟨c2.os, c2.tape, c2.output, c2.size, fun n hn hL => c2.block n hn (fun hB => hL g (e2 n hB)), z1.trans hL1Z, fun t n hn => ?_⟩ z3
      have hFo : ∀ n, Fr n ∨ Fo n → (∃ t', L.F t' n) ∨ w.heap.size ≤ n := fun n hn => (c6 n hn).1.imp (fun q => ⟨g, e2 n q⟩) id
      rcases z2 t n hn with hn | hn
      · simp only at hn
        split at hn
        · rcases hn with hn | hn
          · exact .inl ⟨g, hL1F g n hn.1⟩
          · exact hFo n (.inr (g2 n hn))
        · exact .inl ⟨t, hL1F t n hn⟩
      · exact hFo n (.inl hn)
    · exact hb.elim
  · exact hb.elim

theorem does_mv {fop : Operand} {args : Array Operand} {ts : Array TypeId} {f : FuncId} {caps cs : List Cap} {ps : List PV} {b : Bool} {i : Nat} {agg : Bool} {g : Nat} {p : Path} {s : Sh} {fl : Fl} {x : s.ty} {X : PV → PV → Prop} {K : St → PV → Prop} {xo : Operand} (ho : o.op = .call ⟨.value fop, args, ts⟩)
    (hxo : args.toList[i]? = some xo) (hx : ref st xo = .h agg g p) (hj : take st g p = some (⟨s, fl, x⟩, st1)) (hf : ref st1 fop = .fn f caps) (hcs : lendCaps st1 caps = some cs) (hps : lendX st1 (.root (.val agg) s fl x) i args.toList = some (ps, b))
    (hv : VX P f (ps ++ cs.map capPV) i X) (hk0 : ∀ pv ot, X pv ot → okRes (b || caps.any isAdr) pv = true ∧ nonroot st1 o.dst = true ∧ K st1 pv) : Does P o st (fun st' => ∃ st2 pv, K st2 pv ∧ st' = setD st2 o.dst pv) := by
  intro L a w next Q h hk
  have hv0 := h.opnd xo
  rw [hx] at hv0
  obtain ⟨s1, cs1, ad1, hP, hm, hsl⟩ := hv0
  obtain ⟨L1, B1, e1, r1, e2, e3, e4⟩ := h.take hj hP
  have hss : s1 = s := by
    have := e3.len
    obtain ⟨k, s0, f0, x0, hg, hOk, ⟨f1, x1, hget⟩, hsub⟩ := id hP
    exact take_shape hg hget hj
  subst hss
  have r1 : Rel L1 st1 a w B1 := r1.freeR fun n hn => .inr hn
  generalize hlent : (b || caps.any isAdr) = lent at hk0
  have hnF : ∀ n, B1 n → ¬ L1.Z n ∧ ∀ t, ¬ L1.F t n := fun n hn => ⟨(r1.rlt n hn).2, fun t ht => r1.rdj t n ht hn⟩
  obtain ⟨vals, k1, k2, k3⟩ := callx_vals (F := B1) r1 ho hf hcs hps hv rfl (fun n hn => ⟨(r1.rlt n hn).1, fun hz => hz.elim (hnF n hn).1 fun q => by obtain ⟨t, ht⟩ := q.2; exact (hnF n hn).2 t ht⟩) (fun y hy => by
    rw [hxo] at hy
    obtain rfl := Option.some.inj hy
    exact ⟨cs1, none, B1, ⟨hm, hsl, rfl⟩, fun _ h => h, (fun A hA => by cases hA), e3.frame (fun n hn => .inl (by rw [e1.Z]; exact hn)) (fun _ _ => rfl)⟩)
  rw [hlent] at k3
  unfold Oper.wp
  rw [k2]
  rw [Oper.upon_enter]
  refine k3.mono fun e w' ⟨v, pv, ot, Fr, Fo, c1, c2, c3, c4, c5, c6, c7⟩ => ?_
  subst c1
  show next (a.put o.dst v) w'
  obtain ⟨hok, hb⟩ := hk0 pv ot c3
  have hfr : ∀ n, Fr n → n < w'.heap.size ∧ ¬ L1.Z n ∧ ∀ t, ¬ L1.F t n := fun n hn => by
    obtain ⟨q1, q2⟩ := c6 n (.inl hn)
    refine ⟨q2, ?_⟩
    rcases q1 with q1 | q1
    · exact hnF n q1
    · exact ⟨fun hz => by have := r1.zlt n hz; omega, fun t ht => by have := (r1.flt t n ht).1; omega⟩
  have r2 : Rel L1 st1 a w' Fr := (r1.extF c2 hnF).withR hfr
  obtain ⟨L', z1, z2, z3⟩ := r2.result (lent := lent) (fun e n hn => by subst e; exact hn.elim id fun q => by cases q.1) c4 hok (fun _ h => h) hb.1
  refine hk _ L' _ w' ⟨st1, pv, hb.2, rfl⟩ ⟨c2.os, c2.tape, c2.output, c2.size, fun n hn hL => c2.block n hn (fun hB => by obtain ⟨t, ht⟩ := (e2 n hB).2; exact hL t ht), z1.trans e1.Z, fun t n hn => ?_⟩ z3
  rcases z2 t n hn with hn | hn
  · exact .inl (e1.F t n hn)
  · exact (c6 n (.inl hn)).1.imp (fun q => (e2 n q).2) id

theorem does_bx {fop : Operand} {args : Array Operand} {ts : Array TypeId} {f : FuncId} {caps cs : List Cap} {ps : List PV} {b : Bool} {i : Nat} {g : Nat} {k : RK} {t0 : TypeId} {s : Sh} {fl : Fl} {x : s.ty} {X : PV → PV → Prop} {K : St → PV → Prop} {xo : Operand} (ho : o.op = .call ⟨.value fop, args, ts⟩)
    (hxo : args.toList[i]? = some xo) (hx : ref st xo = .adr g []) (hg : st.at g = .root k s fl x) (hkk : k = .box t0 ∨ ∃ b0, k = .ibox t0 b0) (hj : put st g [] s .junk x hit = some st1) (hf : ref ((st1.map (V.drop g)).set g .dead) fop = .fn f caps) (hcs : lendCaps ((st1.map (V.drop g)).set g .dead) caps = some cs) (hps : lendX ((st1.map (V.drop g)).set g .dead) (.root (.box t0) s fl x) i args.toList = some (ps, b))
    (hv : VX P f (ps ++ cs.map capPV) i X) (hk0 : ∀ pv ot, X pv ot → okRes (b || caps.any isAdr) pv = true ∧ xback st1 g [] (.box t0) s fl x (b || caps.any isAdr) hit ot (fun st2 => nonroot st2 o.dst = true ∧ K st2 pv)) : Does P o st (fun st' => ∃ st2 pv, K st2 pv ∧ st' = setD st2 o.dst pv) := by
  intro L a w next Q h hk
  have hv0 := h.opnd xo
  rw [hx] at hv0
  obtain ⟨s1, cs1, A1, hP, hptr⟩ := hv0
  obtain ⟨k', s0, f0, x0, hg', hOk, ⟨f9, x9, hget⟩, hsub⟩ := id hP
  rw [hg] at hg'
  injection hg' with i1 i2 i3 i4
  subst i1; subst i2; subst i3
  obtain rfl := eq_of_heq i4
  rw [get_nil] at hget
  cases Option.some.inj hget
  rw [sub_nil] at hsub
  obtain ⟨hC, hD⟩ := Prod.mk.inj (Option.some.inj hsub)
  obtain ⟨rt1, B0, rt2, rt3, rt4⟩ := h.root hg
  obtain ⟨b0, hA1, hblk⟩ : ∃ b0, A1 = ⟨b0, 0, none⟩ ∧ w.heap[b0]? = some (.cells cs1.toArray t0 (0, 0)) := by
    rcases hkk with rfl | ⟨b0, rfl⟩
    · obtain ⟨b, m1, m2, m3⟩ := rt1
      rw [hD] at m3
      rw [hC] at m2
      exact ⟨b, Option.some.inj m3, m2⟩
    · obtain ⟨m1, m2, m3⟩ := rt1
      rw [hD] at m3
      rw [hC] at m2
      exact ⟨b0, Option.some.inj m3, m2⟩
  subst hA1
  obtain ⟨f1, x1, e1, B1, e2, e3, e4, e5, e6⟩ := h.put hg hP
  rw [get_nil] at e1
  cases Option.some.inj e1
  obtain ⟨f3, x3, hu, hst1⟩ := put_spec hg hj
  have r1 := e6 w cs1 .junk x (fun _ => False) B1 f3 x3 hit (.inl ⟨rfl, rfl⟩) rfl e3.tojunk (fun _ h => h.elim) (fun b hb => ⟨.inr hb, id⟩) hu (.inl rfl)
  rw [← hst1] at r1
  generalize hL1 : (⟨L.Z, fun t b => if t = g then (L.F g b ∧ ¬ B1 b) ∨ False else L.F t b, fun t => if t = g then csub s (L.C g) [] cs1 else L.C t, L.D⟩ : Lay) = L1 at r1
  have hL1F : ∀ t n, L1.F t n → L.F t n := by
    intro t n hn
    rw [← hL1] at hn
    simp only at hn
    split at hn
    · rename_i e; subst e; exact hn.elim (fun q => q.1) False.elim
    · exact hn
  have hL1Z : L1.Z = L.Z := by rw [← hL1]
  have hL1C : L1.C g = cs1 := by rw [← hL1]; simp only [if_true, csub_nil]
  have hL1D : L1.D g = some ⟨b0, 0, none⟩ := by rw [← hL1]; exact hD
  have hg1 : st1.at g = .root k s f3 x3 := by
    rw [hst1, St.at_set, if_pos ⟨rfl, by rw [List.length_map]; exact root_lt hg⟩]
  have hnF : ∀ n, B1 n → ¬ L1.Z n ∧ ∀ t, ¬ L1.F t n := fun n hn => ⟨(r1.rlt n hn).2, fun t ht => r1.rdj t n ht hn⟩
  have hb0 : L.F g b0 ∧ ¬ B1 b0 := e5 _ rfl
  have hb1 : L1.F g b0 := by rw [← hL1]; simp only [if_true]; exact .inl hb0
  obtain ⟨Bg, rg, _, _⟩ := r1.gone hg1
  generalize hLg : (⟨L1.Z, fun t b => if t = g then False else L1.F t b, L1.C, L1.D⟩ : Lay) = Lg at rg
  have hLgZ : Lg.Z = L1.Z := by rw [← hLg]
  have hLgF : ∀ t n, Lg.F t n → L1.F t n := by
    intro t n hn
    rw [← hLg] at hn
    simp only at hn
    split at hn
    · exact hn.elim
    · exact hn
  generalize hlent : (b || caps.any isAdr) = lent at hk0
  have hzz : ∀ n, zoneOf Lg lent n → ¬ (B1 n ∨ n = b0) := fun n hn hf => by
    have hR : B1 n ∨ L1.F g n := hf.imp id (fun e => by rw [e]; exact hb1)
    rcases hn with hn | ⟨_, t, hn⟩
    · exact (rg.rlt n hR).2 hn
    · exact rg.rdj t n hn hR
  obtain ⟨vals, k1, k2, k3⟩ := callx_vals (F := fun n => B1 n ∨ n = b0) (Z' := zoneOf Lg lent) rg ho hf hcs hps hv (by rw [hlent]) (fun n hn => by
    refine ⟨?_, fun hz => hzz n hz hn⟩
    rcases hn with hn | rfl
    · exact (r1.rlt n hn).1
    · exact (r1.flt g _ hb1).1) (fun y hy => by
    rw [hxo] at hy
    obtain rfl := Option.some.inj hy
    exact ⟨cs1, some ⟨b0, 0, none⟩, B1, ⟨b0, hptr, hblk, rfl⟩, fun _ h => .inl h, (fun A hA => by obtain rfl := Option.some.inj hA; exact ⟨hb0.2, .inr rfl⟩), e3.frame (fun n hn => .inl (by rw [hLgZ, hL1Z]; exact hn)) (fun _ _ => rfl)⟩)
  unfold Oper.wp
  rw [k2]
  rw [Oper.upon_enter]
  refine k3.mono fun e w' ⟨v, pv, ot, Fr, Fo, c1, c2, c3, c4, c5, c6, c7⟩ => ?_
  subst c1
  show next (a.put o.dst v) w'
  obtain ⟨hok, hb⟩ := hk0 pv ot c3
  unfold xback at hb
  split at hb
  · rename_i k' s' f' x'
    obtain ⟨rfl, hnf, hb⟩ := hb
    obtain ⟨y, hy, hnf⟩ : ∃ y, castTo s' s x' = some y ∧ (lent = true → keepZ s f' y fl x) := by
      split at hnf
      · rename_i y hy; exact ⟨y, hy, hnf⟩
      · exact hnf.elim
    obtain ⟨rfl, hy⟩ := castTo_some hy
    simp only at hy
    subst hy
    split at hb
    · rename_i st2 hput
      obtain ⟨cs2, ad2, B2, g1, g2, g3, g4⟩ := (c5 _ (k1 _ hxo)).resolve_left (by simp)
      obtain ⟨b2, n1, n2, n3⟩ := g1
      have hbb : b2 = b0 := by
        rw [hptr] at n1
        injection n1 with n1
        have := Option.some.inj n1
        injection this with n1
        exact n1.symm
      subst hbb
      obtain ⟨g31, g32⟩ := g3 _ n3
      have hkeep : ∀ b, L1.Z b → w'.heap[b]? = w.heap[b]? := fun b hb => c2.block b (r1.zlt b hb) (fun hf => hzz b (.inl (by rw [hLgZ]; exact hb)) hf)
      have g4 : Rep w' L1.Z s' f' x' cs2 B2 := by
        cases lent with
        | true => exact Rep.keepZ hkeep (hnf rfl) (by rw [hL1Z]; exact e3) g4
        | false => exact g4.frame (fun n hn => hn.elim (fun q => by rw [← hLgZ]; exact q) fun q => by cases q.1) (fun _ _ => rfl)
      have hlt0 : b2 < w'.heap.size := (c6 _ (.inr g32)).2
      let w1 : World := { w' with heap := w'.heap.set b2 (.cells cs1.toArray t0 (0, 0)) hlt0 }
      have hw1 : w1.heap[b2]? = some (.cells cs1.toArray t0 (0, 0)) := by simp [w1]
      have hw1n : ∀ n, n ≠ b2 → w1.heap[n]? = w'.heap[n]? := fun n hn => by
        simp only [w1]
        rw [Array.getElem?_set_ne]
        exact fun e => hn e.symm
      have hw1s : w1.heap.size = w'.heap.size := by simp [w1]
      have hfr : ∀ n, Fr n ∨ (Fo n ∧ n ≠ b2) → n < w1.heap.size ∧ ¬ L1.Z n ∧ ∀ t, ¬ L1.F t n := fun n hn => by
        have hne : n ≠ b2 := by
          rcases hn with hn | hn
          · intro e; subst e; exact c7 _ hn g32
          · exact hn.2
        obtain ⟨q1, q2⟩ := c6 n (hn.imp id (fun q => q.1))
        refine ⟨by omega, ?_⟩
        rcases q1 with q1 | q1
        · exact hnF n (q1.resolve_right hne)
        · exact ⟨fun hz => by have := r1.zlt n hz; omega, fun t ht => by have := (r1.flt t n ht).1; omega⟩
      have hsame : ∀ n, L1.Z n ∨ (∃ t, L1.F t n) → w1.heap[n]? = w.heap[n]? := fun n hn => by
        by_cases e : n = b2
        · subst e; rw [hw1, hblk]
        · rw [hw1n n e]
          refine c2.block n ?_ (fun hF => ?_)
          · rcases hn with hn | ⟨t, hn⟩
            · exact r1.zlt n hn
            · exact (r1.flt t n hn).1
          · have hB := hF.resolve_right e
            rcases hn with hn | ⟨t, hn⟩
            · exact (hnF n hB).1 hn
            · exact (hnF n hB).2 t hn
      have r2 : Rel L1 st1 a w1 (fun n => Fr n ∨ (Fo n ∧ n ≠ b2)) := (r1.ext (by rw [hw1s]; exact c2.size) hsame).withR hfr
      have hP2 : Place L1 st1 w1 g [] s' cs1 (some ⟨b2, 0, none⟩) := ⟨k, s', f3, x3, hg1, by cases s' <;> trivial, ⟨f3, x3, get_nil _ _ _⟩, by rw [sub_nil, hL1C, hL1D]⟩
      obtain ⟨f5, x5, d1, B5, d2, d3, d4, d5, d6⟩ := r2.put hg1 hP2
      obtain ⟨f6, x6, hu2, hst2⟩ := put_spec hg1 hput
      have hln : cs2.length = cs1.length := g4.len.trans e3.len.symm
      have hChg : Chg w1 w' (some ⟨b2, 0, none⟩) cs1 cs2 := by
        refine .inr ⟨⟨b2, 0, none⟩, rfl, rfl, hln, fun n hn => (hw1n n hn).symm, fun cur e fr hc => ?_⟩
        rw [hw1] at hc
        obtain ⟨rfl, rfl, rfl⟩ : cs1.toArray = cur ∧ t0 = e ∧ ((0, 0) : Nat × Nat) = fr := by
          have := Option.some.inj hc
          injection this with a1 a2 a3
          exact ⟨a1, a2, a3⟩
        rw [wrArr_list _ _ _ (by simp; omega)]
        rw [n2]
        have : cs1.toArray.toList.drop (0 + cs2.length) = [] := by simp; omega
        rw [this]
        simp
      have r3 := d6 w' cs2 f' x' B2 Fr f6 x6 hit hChg hw1s.symm g4 (fun n hn => .inl (.inr ⟨g2 n hn, fun e => g31 (by rw [← e]; exact hn)⟩)) (fun n hn => ⟨.inl (.inl hn), fun h2 => c7 n hn (g2 n h2)⟩) hu2 (.inl rfl)
      rw [← hst2] at r3
      obtain ⟨L', z1, z2, z3⟩ := r3.result (lent := lent) (fun e n hn => by subst e; exact hn.elim (fun q => by rw [← hLgZ]; exact q) fun q => by cases q.1) c4 hok (fun _ h => h) hb.1
      have hbF : ∀ n, B1 n ∨ n = b2 → L.F g n := fun n hn => hn.elim (e2 n) (fun e => by rw [e]; exact hb0.1)
      refine hk _ L' _ w' ⟨st2, pv, hb.2, rfl⟩ ⟨c2.os, c2.tape, c2.output, c2.size, fun n hn hL => c2.block n hn (fun hB => hL g (hbF n hB)), z1.trans hL1Z, fun t n hn => ?_⟩ z3
      have hFo : ∀ n, Fr n ∨ Fo n → (∃ t', L.F t' n) ∨ w.heap.size ≤ n := fun n hn => (c6 n hn).1.imp (fun q => ⟨g, hbF n q⟩) id
      rcases z2 t n hn with hn | hn
      · simp only at hn
        split at hn
        · rcases hn with hn | hn
          · exact .inl ⟨g, hL1F g n hn.1⟩
          · exact hFo n (.inr (g2 n hn))
        · exact .inl ⟨t, hL1F t n hn⟩
      · exact hFo n (.inl hn)
    · exact hb.elim
  · exact hb.elim
end
end Go.Proofs.Yteeklekfafedcaa.V

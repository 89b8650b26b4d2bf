/- Calls: what a function of the program does, told over typed values; and one step of a region. No condition. -/
import Derived.Test.YteeklekfafedcaaV14
import Derived.Laws.Cover3
set_option linter.unusedVariables false
namespace Go.Proofs.Yteeklekfafedcaa.V
open Go Go.RowKit

/-- a value in frozen memory -/
def ARep (w : World) (Z : Nat → Prop) : PV → Value → Prop
  | .v agg s x, v => ∃ cs, mkV agg cs v ∧ Rep w Z s .fz x cs (fun _ => False)
  | .emp, v => ∃ A, v = .slice A 0 0
  | .fadr s x, v => FaRep w Z s x v
  | .fn f caps, v => ∃ vs : List Value, v = .func (.func f) #[] vs.toArray ∧ vs.length = caps.length ∧ ∀ (i : Nat) (c : Cap) (u : Value), caps[i]? = some c → vs[i]? = some u → ∃ s x, c = .fadr s x ∧ FaRep w Z s x u
  | _, _ => False

/-- a result: frozen, or new and the receiver's own -/
def FRes (w w' : World) (Z : Nat → Prop) : PV → Value → Prop
  | .root k s f x, v => ∃ cs ad, ∃ B Fd : Nat → Prop, RootAt w' k s v cs ad ∧ (∀ b, B b → Fd b) ∧ (∀ A, ad = some A → ¬ B A.block ∧ Fd A.block) ∧ Rep w' Z s f x cs B ∧ ∀ b, Fd b → w.heap.size ≤ b ∧ b < w'.heap.size
  | pv, v => ARep w' Z pv v

/-- the function, called with such arguments, returns one of the results told, and changes nothing that stood -/
structure VC (P : Program) (f : FuncId) (args : List PV) (R : PV → Prop) : Prop where
  fn : ∃ fn, P.funcs[f]? = some fn ∧ fn.body.isSome = true ∧ (fn.name == "runtime.NumGoroutine") = false
  run : ∀ (Z : Nat → Prop) (w : World) (vals : List Value), (∀ b, Z b → b < w.heap.size) → vals.length = args.length → (∀ (i : Nat) (pv : PV) (v : Value), args[i]? = some pv → vals[i]? = some v → ARep w Z pv v) →
    Calls P f vals.toArray w fun e w' => ∃ v pv, e = .returned v ∧ Ext w w' ∧ R pv ∧ FRes w w' Z pv v

theorem VC.mono {P : Program} {f : FuncId} {args : List PV} {R R' : PV → Prop} (h : VC P f args R) (k : ∀ pv, R pv → R' pv) : VC P f args R' :=
  ⟨h.fn, fun Z w vals h1 h2 h3 => (h.run Z w vals h1 h2 h3).mono fun e w' ⟨v, pv, q1, q2, q3, q4⟩ => ⟨v, pv, q1, q2, k pv q3, q4⟩⟩

/-- what is handed to a call that reads it -/
def lendCap (rt : St) : Cap → Option (PV × Bool)
  | .fadr s x => some (.fadr s x, false)
  | .adr g p => match look rt g p with
    | some ⟨s, f, x⟩ => if Fl.sound s f = true then some (.fadr s x, true) else none
    | none => none
def lendCaps (rt : St) : List Cap → Option (List Cap)
  | [] => some []
  | c :: r => match lendCap rt c, lendCaps rt r with
    | some (.fadr s x, _), some cs => some (.fadr s x :: cs)
    | _, _ => none
def isAdr : Cap → Bool
  | .adr .. => true
  | _ => false
theorem lendCaps_all (rt : St) : ∀ (caps : List Cap), caps.any isAdr = false → lendCaps rt caps = some caps
  | [], _ => rfl
  | .fadr s x :: r, h => by
    simp only [List.any_cons, Bool.or_eq_false_iff] at h
    simp only [lendCaps, lendCap, lendCaps_all rt r h.2]
  | .adr g p :: r, h => by simp [isAdr] at h
def lend (rt : St) : PV → Option (PV × Bool)
  | .v agg s x => some (.v agg s x, false)
  | .emp => some (.emp, false)
  | .fadr s x => some (.fadr s x, false)
  | .h agg g p => match look rt g p with
    | some ⟨s, f, x⟩ => if Fl.sound s f = true then some (.v agg s x, true) else none
    | none => none
  | .adr g p => lendCap rt (.adr g p)
  | .fn f caps => match lendCaps rt caps with
    | some cs => some (.fn f cs, caps.any isAdr)
    | none => none
  | _ => none
def lendAll (rt st : St) : List Operand → Option (List PV × Bool)
  | [] => some ([], false)
  | x :: r => match lend rt (ref st x), lendAll rt st r with
    | some (pv, b), some (ps, c) => some (pv :: ps, b || c)
    | _, _ => none

def capPV : Cap → PV
  | .fadr s x => .fadr s x
  | .adr g p => .adr g p

/-- nothing frozen in it -/
def Fl.nofz : Sh → Fl → Bool
  | .sl _ s, f => match f with
    | .own => true
    | .ownf => s.plain
    | .io _ _ => true
    | .junk => true
    | _ => false
  | .pr a b, f => Fl.nofz a f.l && Fl.nofz b f.r
  | _, _ => true
/-- what may come back from a call to which something was lent -/
def okRes (lent : Bool) : PV → Bool
  | .root _ s f _ => !lent || Fl.nofz s f
  | .v _ s _ => !lent || s.plain
  | .emp => true
  | _ => !lent

theorem Rep.nofz {w : World} {Z Z' : Nat → Prop} : ∀ {s : Sh} {f : Fl} {x : s.ty} {cs : List Value} {B : Nat → Prop}, Fl.nofz s f = true → Rep w Z s f x cs B → Rep w Z' s f x cs B
  | .unit, _, _, _, _, _, h => h
  | .int _, _, _, _, _, _, h => h
  | .bool, _, _, _, _, _, h => h
  | .str, _, _, _, _, _, h => h
  | .pr a b, f, x, cs, B, k, ⟨c1, c2, B1, B2, h1, h2, h3, h4, h5, h6⟩ => by
    simp only [Fl.nofz, Bool.and_eq_true] at k
    exact ⟨c1, c2, B1, B2, h1, h2, h3, h4, h5.nofz k.1, h6.nofz k.2⟩
  | .sl e s, f, x, cs, B, k, h => by
    cases f with
    | own =>
      have own : ∀ s : Sh, Fl.nofz s .own = true := by
        intro s
        induction s with
        | pr a b h1 h2 => simp only [Fl.nofz, Fl.l, Fl.r, h1, h2, Bool.and_self]
        | _ => rfl
      exact OwnR.imp h fun i c B' _ hr => hr.nofz (own s)
    | ownf => exact OwnR.imp h fun i c B' _ hr => hr.plain k
    | io n c =>
      have own : ∀ s : Sh, Fl.nofz s .own = true := by
        intro s
        induction s with
        | pr a b h1 h2 => simp only [Fl.nofz, Fl.l, Fl.r, h1, h2, Bool.and_self]
        | _ => rfl
      exact ⟨OwnR.imp h.1 fun i c B' _ hr => hr.nofz (own s), h.2⟩
    | junk => exact h
    | kz A c => simp [Fl.nofz] at k
    | fz => simp [Fl.nofz] at k
    | pr => simp [Fl.nofz] at k

section
variable {P : Program} {o : Oper} {L L1 : Lay} {st st1 : St} {a : Act} {w w' : World} {R : Nat → Prop} {T : List (Nat × TI)} {rt : St} {out : Out}

/-- the zone that a call reads -/
def zoneOf (L : Lay) (lent : Bool) (b : Nat) : Prop := L.Z b ∨ (lent = true ∧ ∃ t, L.F t b)

theorem zone_mono {b c : Bool} (h : b = true → c = true) (L : Lay) : ∀ n, zoneOf L b n → zoneOf L c n := fun n k => k.imp id fun q => ⟨h q.1, q.2⟩

theorem ARep.mono {Z Z' : Nat → Prop} (hz : ∀ b, Z b → Z' b) : ∀ {pv : PV} {v : Value}, ARep w Z pv v → ARep w Z' pv v
  | .v agg s x, v, ⟨cs, h1, h2⟩ => ⟨cs, h1, h2.frame hz (fun _ _ => rfl)⟩
  | .emp, v, h => h
  | .fadr s x, v, h => FaRep.ext hz (fun _ _ => rfl) h
  | .fn f caps, v, ⟨vs, h1, h2, h3⟩ => ⟨vs, h1, h2, fun i c u hc hu => by obtain ⟨s, x, e, q⟩ := h3 i c u hc hu; exact ⟨s, x, e, FaRep.ext hz (fun _ _ => rfl) q⟩⟩
  | .dead, _, h => h
  | .h .., _, h => h
  | .adr .., _, h => h
  | .root .., _, h => h

theorem lent_fadr (h : Rel L st a w R) (hrt : ∀ g k s f x, rt.at g = .root k s f x → st.at g = .root k s f x) {g : Nat} {p : Path} {s1 : Sh} {cs1 : List Value} {A : Addr} (hp : Place L st w g p s1 cs1 (some A)) {s : Sh} {f : Fl} {x : s.ty} (hl : look rt g p = some ⟨s, f, x⟩) (hf : Fl.sound s f = true) : FaRep w (zoneOf L true) s x (.pointer (some A)) := by
  have hl' := look_rt hrt hl
  obtain rfl := hp.shape hl'
  obtain ⟨q1, q2, B1, q3, q4⟩ := h.place hp hl'
  exact ⟨A, cs1, rfl, q4.len, .inr ⟨rfl, g, q2 A rfl⟩, fun j hj => q1 A rfl j (by rw [q4.len]; exact hj), q4.freeze (fun b hb => .inl hb) hf (fun b hb => .inr ⟨rfl, g, q3 b hb⟩)⟩

theorem lendCap_ok (h : Rel L st a w R) (hrt : ∀ g k s f x, rt.at g = .root k s f x → st.at g = .root k s f x) {c : Cap} {v : Value} (hv : CapRep L st w c v) {pv : PV} {b : Bool} (hl : lendCap rt c = some (pv, b)) : ∃ s x, pv = .fadr s x ∧ FaRep w (zoneOf L b) s x v := by
  cases c with
  | fadr s x =>
    obtain ⟨rfl, rfl⟩ := Prod.mk.inj (Option.some.inj hl)
    exact ⟨s, x, rfl, FaRep.ext (fun b hb => .inl hb) (fun _ _ => rfl) hv⟩
  | adr g p =>
    simp only [lendCap] at hl
    split at hl
    · rename_i s f x hlk
      split at hl
      · rename_i hf
        obtain ⟨rfl, rfl⟩ := Prod.mk.inj (Option.some.inj hl)
        obtain ⟨s1, cs1, A, q1, rfl⟩ := hv
        exact ⟨s, x, rfl, lent_fadr h hrt q1 hlk hf⟩
      · cases hl
    · cases hl

theorem lendCaps_ok (h : Rel L st a w R) (hrt : ∀ g k s f x, rt.at g = .root k s f x → st.at g = .root k s f x) : ∀ (caps : List Cap) {cs : List Cap}, lendCaps rt caps = some cs → cs.length = caps.length ∧ ∀ (i : Nat) (c : Cap), cs[i]? = some c → ∃ s x, c = .fadr s x ∧ ∀ c0, caps[i]? = some c0 → ∀ v, CapRep L st w c0 v → FaRep w (zoneOf L (caps.any isAdr)) s x v
  | [], cs, hl => by obtain rfl := Option.some.inj hl; exact ⟨rfl, fun i c hc => by simp at hc⟩
  | c :: r, cs, hl => by
    simp only [lendCaps] at hl
    split at hl
    · rename_i s x b cs' h1 h2
      obtain rfl := Option.some.inj hl
      obtain ⟨q1, q2⟩ := lendCaps_ok h hrt r h2
      refine ⟨by simp [q1], fun i c' hc => ?_⟩
      cases i with
      | zero =>
        simp only [List.getElem?_cons_zero, Option.some.injEq] at hc
        subst hc
        refine ⟨s, x, rfl, fun c0 hc0 v hv => ?_⟩
        simp only [List.getElem?_cons_zero, Option.some.injEq] at hc0
        subst hc0
        obtain ⟨s', x', e, q⟩ := lendCap_ok h hrt hv h1
        obtain ⟨rfl, rfl⟩ : s = s' ∧ HEq x x' := by injection e with e1 e2; exact ⟨e1, e2⟩
        refine FaRep.ext (fun n hn => ?_) (fun _ _ => rfl) q
        refine zone_mono (fun hb => ?_) L n hn
        subst hb
        cases c with
        | adr => simp [isAdr]
        | fadr => simp [lendCap] at h1
      | succ i =>
        simp only [List.getElem?_cons_succ] at hc
        obtain ⟨s', x', e, q⟩ := q2 i c' hc
        refine ⟨s', x', e, fun c0 hc0 v hv => ?_⟩
        simp only [List.getElem?_cons_succ] at hc0
        exact FaRep.ext (fun n hn => zone_mono (fun hb => by simp only [List.any_cons, hb, Bool.or_true]) L n hn) (fun _ _ => rfl) (q c0 hc0 v hv)
    · cases hl

theorem lend_ok (h : Rel L st a w R) (hrt : ∀ g k s f x, rt.at g = .root k s f x → st.at g = .root k s f x) {pv0 : PV} {v : Value} (hv : ORep L st w pv0 v) {pv : PV} {b : Bool} (hl : lend rt pv0 = some (pv, b)) : ARep w (zoneOf L b) pv v := by
  cases pv0 with
  | v agg s x =>
    obtain ⟨rfl, rfl⟩ := Prod.mk.inj (Option.some.inj hl)
    exact ARep.mono (Z := L.Z) (fun b hb => .inl hb) hv
  | emp =>
    obtain ⟨rfl, rfl⟩ := Prod.mk.inj (Option.some.inj hl)
    exact hv
  | fadr s x =>
    obtain ⟨rfl, rfl⟩ := Prod.mk.inj (Option.some.inj hl)
    exact ARep.mono (Z := L.Z) (pv := .fadr s x) (fun b hb => .inl hb) hv
  | h agg g p =>
    simp only [lend] at hl
    split at hl
    · rename_i s f x hlk
      split at hl
      · rename_i hf
        obtain ⟨rfl, rfl⟩ := Prod.mk.inj (Option.some.inj hl)
        obtain ⟨s1, cs1, ad1, q1, q2, _⟩ := hv
        have hl' := look_rt hrt hlk
        obtain rfl := q1.shape hl'
        obtain ⟨m1, m2, B1, m3, m4⟩ := h.place q1 hl'
        exact ⟨cs1, q2, m4.freeze (fun b hb => .inl hb) hf (fun b hb => .inr ⟨rfl, g, m3 b hb⟩)⟩
      · cases hl
    · cases hl
  | adr g p =>
    obtain ⟨s, x, rfl, q⟩ := lendCap_ok (c := .adr g p) h hrt hv hl
    exact q
  | fn f caps =>
    simp only [lend] at hl
    split at hl
    · rename_i cs hcs
      obtain ⟨rfl, rfl⟩ := Prod.mk.inj (Option.some.inj hl)
      obtain ⟨vs, q1, q2, q3⟩ := hv
      obtain ⟨m1, m2⟩ := lendCaps_ok h hrt caps hcs
      refine ⟨vs, q1, by omega, fun i c u hc hu => ?_⟩
      obtain ⟨s, x, e, m3⟩ := m2 i c hc
      have hlt : i < caps.length := by rw [← m1]; exact (List.getElem?_eq_some_iff.1 hc).1
      exact ⟨s, x, e, m3 _ (List.getElem?_eq_getElem hlt) u (q3 i _ u (List.getElem?_eq_getElem hlt) hu)⟩
    · cases hl
  | dead => cases hl
  | root => cases hl

theorem lendAll_ok (h : Rel L st a w R) (hrt : ∀ g k s f x, rt.at g = .root k s f x → st.at g = .root k s f x) : ∀ (xs : List Operand) {ps : List PV} {b : Bool}, lendAll rt st xs = some (ps, b) → ps.length = xs.length ∧ ∀ (i : Nat) (pv : PV) (v : Value), ps[i]? = some pv → (xs.map a.eval)[i]? = some v → ARep w (zoneOf L b) pv v
  | [], ps, b, hl => by
    obtain ⟨rfl, rfl⟩ := Prod.mk.inj (Option.some.inj hl)
    exact ⟨rfl, fun i pv v hi => by simp at hi⟩
  | x :: r, ps, b, hl => by
    simp only [lendAll] at hl
    split at hl
    · rename_i pv b1 ps' c1 h1 h2
      obtain ⟨rfl, rfl⟩ := Prod.mk.inj (Option.some.inj hl)
      obtain ⟨q1, q2⟩ := lendAll_ok h hrt r h2
      refine ⟨by simp [q1], fun i pv' v hi hv => ?_⟩
      cases i with
      | zero =>
        simp only [List.getElem?_cons_zero, Option.some.injEq, List.map_cons] at hi hv
        subst hi; subst hv
        exact (lend_ok h hrt (h.opnd x) h1).mono (zone_mono (fun e => by simp [e]) L)
      | succ i =>
        simp only [List.getElem?_cons_succ, List.map_cons] at hi hv
        exact (q2 i pv' v hi hv).mono (zone_mono (fun e => by simp [e]) L)
    · cases hl

/-- one step: from the state st the operation leads to a state of K -/
def Does (P : Program) (o : Oper) (st : St) (K : St → Prop) : Prop :=
  ∀ (L : Lay) (a : Act) (w : World) (next : Act → World → Prop) (Q : Exit → Act → World → Prop), Rel L st a w Free → (∀ st' L' a' w', K st' → Stp L L' w w' → Rel L' st' a' w' Free → next a' w') → o.wp P a w next Q

def nonroot (st : St) : Option Tmp → Bool
  | none => true
  | some d => !(st.at d).isRoot

theorem nonroot_spec {d : Option Tmp} (h : nonroot st d = true) : ∀ t, d = some t → (st.at t).isRoot = false := by
  rintro t rfl
  simpa [nonroot] using h

theorem does_pop (hT : TabOk P T) (hrt : ∀ g k s f x, rt.at g = .root k s f x → st.at g = .root k s f x) (hp : pop T rt st o = some out) (hc : out.c = true) (hd : nonroot out.st o.dst = true) : Does P o st (· = setD out.st o.dst out.pv) := by
  intro L a w next Q h hk
  obtain ⟨⟨v, w', hrun, hto⟩, _⟩ := pop_ok hT h hrt hp hc
  obtain ⟨L', q1, q2⟩ := hto o.dst (nonroot_spec hd)
  have := hk _ L' _ w' rfl q1 q2
  unfold Oper.wp
  rcases hrun with hrun | ⟨hrun, rfl⟩
  · rw [hrun]; exact this
  · rw [hrun]; exact this

theorem does_call {fop : Operand} {args : Array Operand} {ts : Array TypeId} {f : FuncId} {caps cs : List Cap} {ps : List PV} {b : Bool} {R : PV → Prop} (hrt : ∀ g k s f x, rt.at g = .root k s f x → st.at g = .root k s f x) (ho : o.op = .call ⟨.value fop, args, ts⟩) (hf : ref st fop = .fn f caps) (hcs : lendCaps rt caps = some cs)
    (hps : lendAll rt st args.toList = some (ps, b)) (hv : VC P f (ps ++ cs.map capPV) R) (hd : nonroot st o.dst = true) (hok : ∀ pv, R pv → okRes (b || caps.any isAdr) pv = true) : Does P o st (fun st' => ∃ pv, R pv ∧ st' = setD st o.dst pv) := by
  intro L a w next Q h hk
  have hfv := h.opnd fop
  rw [hf] at hfv
  obtain ⟨vs, q1, q2, q3⟩ := hfv
  obtain ⟨l1, l2⟩ := lendAll_ok h hrt _ hps
  obtain ⟨m1, m2⟩ := lendCaps_ok h hrt caps hcs
  have l1' : ps.length = args.size := by simpa using l1
  obtain ⟨fn, f1, f2, f3⟩ := hv.fn
  have f3' : ¬ fn.name = "runtime.NumGoroutine" := by simpa using f3
  obtain ⟨body, hbody⟩ := Option.isSome_iff_exists.1 f2
  let lent := b || caps.any isAdr
  have hzl : ∀ n, zoneOf L lent n → n < w.heap.size := fun n hn => by
    rcases hn with hn | ⟨_, t, hn⟩
    · exact h.zlt n hn
    · exact (h.flt t n hn).1
  have hcalls := hv.run (zoneOf L lent) w (args.toList.map a.eval ++ vs) hzl (by simp [l1, m1, q2]) (fun i pv v hi hvv => by
    by_cases hlt : i < ps.length
    · rw [List.getElem?_append_left hlt] at hi
      rw [List.getElem?_append_left (by simp; omega)] at hvv
      exact (l2 i pv v hi hvv).mono (zone_mono (fun e => by simp [lent, e]) L)
    · rw [List.getElem?_append_right (by omega)] at hi
      rw [List.getElem?_append_right (by simp; omega)] at hvv
      rw [List.getElem?_map] at hi
      obtain ⟨c, hc, rfl⟩ := Option.map_eq_some_iff.1 hi
      obtain ⟨s, x, rfl, m3⟩ := m2 _ c hc
      have hlt : i - ps.length < caps.length := by rw [← m1]; exact (List.getElem?_eq_some_iff.1 hc).1
      have e : (args.toList.map a.eval).length = ps.length := by simp [l1]
      rw [e] at hvv
      exact FaRep.ext (zone_mono (fun e => by simp [lent, e]) L) (fun _ _ => rfl) (m3 _ (List.getElem?_eq_getElem hlt) v (q3 _ _ v (List.getElem?_eq_getElem hlt) hvv)))
  have hexec : (execOp a.eval o).run P w = .ok (.enter f (args.toList.map a.eval ++ vs).toArray) w := by
    have e : (args.toList.map a.eval ++ vs).toArray = args.map a.eval ++ vs.toArray := by apply Array.ext'; simp
    rw [e]
    simp [execOp, ho, resolve, q1, Deferred.ofValue, invoke, callFunc, f1, f3', hbody]
  unfold Oper.wp
  rw [hexec]
  rw [Oper.upon_enter]
  refine hcalls.mono fun e w' ⟨v, pv, r1, r2, r3, r4⟩ => ?_
  subst r1
  show next (a.put o.dst v) w'
  have hok := hok pv r3
  have hg := h.grow r2
  rcases PV.root_or pv with ⟨k, s, fl, x, rfl⟩ | hpv
  · obtain ⟨cs', ad, B, Fd, g1, g2, g3, g4, g5⟩ := r4
    have g4 : Rep w' L.Z s fl x cs' B := by
      by_cases hl : lent = true
      · exact g4.nofz (by simpa [okRes, show (b || caps.any isAdr) = true from hl] using hok)
      · exact g4.frame (fun n hn => hn.elim id fun q => absurd q.1 hl) (fun _ _ => rfl)
    cases hdst : o.dst with
    | none => exact hk _ L _ w' ⟨_, r3, by rw [hdst]; rfl⟩ (Stp.ext r2) hg
    | some d =>
      have hdr := nonroot_spec hd d hdst
      have hold : ∀ n, Fd n → n < w'.heap.size ∧ ¬ L.Z n ∧ ∀ t, ¬ L.F t n := fun n hn => ⟨(g5 n hn).2, fun hz => by have := h.zlt n hz; have := (g5 n hn).1; omega, fun t ht => by have := (h.flt t n ht).1; have := (g5 n hn).1; omega⟩
      refine hk _ (L.set d Fd cs' ad) _ w' ⟨_, r3, by rw [hdst]; rfl⟩ ⟨r2.os, r2.tape, r2.output, r2.size, fun n hn _ => r2.block n hn, rfl, fun t n hn => ?_⟩ (hg.setR hdr g1 g2 g3 g4 hold (fun n hn => hn.elim))
      simp only [Lay.set] at hn
      split at hn
      · exact .inr (g5 n hn).1
      · exact .inl ⟨t, hn⟩
  · have ho' : ORep L st w' pv v := by
      have hz : lent = false → ∀ n, zoneOf L lent n → L.Z n := fun hl n hn => hn.elim id fun q => by rw [hl] at q; cases q.1
      cases pv with
      | v agg s x =>
        obtain ⟨cs', g1, g2⟩ := (r4 : ARep w' _ (.v agg s x) v)
        refine ⟨cs', g1, ?_⟩
        by_cases hl : lent = true
        · exact g2.plain (by simpa [okRes, show (b || caps.any isAdr) = true from hl] using hok)
        · exact g2.frame (hz (by simpa using hl)) (fun _ _ => rfl)
      | emp => exact r4
      | fadr s x =>
        have hl : lent = false := by
          have : (!lent) = true := hok
          simpa using this
        exact FaRep.ext (hz hl) (fun _ _ => rfl) (r4 : FaRep w' _ s x v)
      | fn f2 caps2 =>
        have hl : lent = false := by
          have : (!lent) = true := hok
          simpa using this
        obtain ⟨vs2, g1, g2, g3⟩ := (r4 : ARep w' _ (.fn f2 caps2) v)
        refine ⟨vs2, g1, g2, fun i c u hc hu => ?_⟩
        obtain ⟨s, x, rfl, g4⟩ := g3 i c u hc hu
        exact FaRep.ext (hz hl) (fun _ _ => rfl) g4
      | dead => exact r4.elim
      | h => exact (r4 : False).elim
      | adr => exact (r4 : False).elim
      | root => cases hpv
    cases hdst : o.dst with
    | none => exact hk _ L _ w' ⟨_, r3, by rw [hdst]; rfl⟩ (Stp.ext r2) hg
    | some d => exact hk _ L _ w' ⟨_, r3, by rw [hdst]; rfl⟩ (Stp.ext r2) (hg.setO (nonroot_spec hd d hdst) hpv ho')

/-- a slice compared with nil: its length -/
def nilTest (T : List (Nat × TI)) (st : St) (o : Oper) : Option Nat :=
  match o.op with
  | .binOp .eql t x (.const (.slice none 0 0)) _ => match tget T t with
    | some ⟨.sl _ _, false, _, _, _, _⟩ => lenOf st (ref st x)
    | _ => none
  | _ => none

theorem len_some (h : Rel L st a w R) {pv : PV} {v : Value} (hv : ORep L st w pv v) {n : Nat} (hn : lenOf st pv = some n) : ∃ A c, v = .slice A n c ∧ (0 < n → A.isNone = false) := by
  unfold lenOf at hn
  split at hn
  · obtain rfl := Option.some.inj hn
    obtain ⟨A, hv⟩ := hv
    exact ⟨A, 0, hv, fun h => by omega⟩
  · rename_i e s x
    obtain rfl := Option.some.inj hn
    obtain ⟨cs, m1, A, c, rfl, q1, q2, q3⟩ := hv
    refine ⟨A, c, by simpa [mkV] using m1.symm, fun hp => ?_⟩
    obtain ⟨ad, rfl, _⟩ := q3 hp
    rfl
  · rename_i g p
    split at hn
    · rename_i e s f x hl
      split at hn
      · rename_i hf
        obtain rfl := Option.some.inj hn
        obtain ⟨s1, cs1, ad1, q1, q2, _⟩ := hv
        obtain rfl := q1.shape hl
        obtain ⟨_, _, B1, _, m4⟩ := h.place q1 hl
        have aux : ∀ f0 : Fl, OwnR w e s.size (fun x c B' => Rep w L.Z s f0 x c B') s.zero x cs1 B1 → ∃ A c, v = .slice A (List.length x) c ∧ (0 < List.length x → A.isNone = false) := by
          intro f0 hR
          rcases hR with ⟨A, rfl, hx⟩ | ⟨gg, cap, cur, rows, Bs, rfl, _⟩
          · have hx : (x : List s.ty) = [] := hx
            refine ⟨A, 0, ?_, fun hp => by rw [hx] at hp; simp at hp⟩
            rw [hx]; simpa [mkV] using q2.symm
          · exact ⟨_, cap, by simpa [mkV] using q2.symm, fun _ => rfl⟩
        cases f with
        | fz =>
          obtain ⟨A, c, rfl, k1, k2, k3⟩ := m4
          refine ⟨A, c, by simpa [mkV] using q2.symm, fun hp => ?_⟩
          obtain ⟨ad, rfl, _⟩ := k3 hp
          rfl
        | own => exact aux _ m4
        | ownf => exact aux _ m4
        | io n c => exact aux _ m4.1
        | kz A1 c1 =>
          obtain ⟨A, c, rfl, k1, k2, k3⟩ := m4.1
          refine ⟨A, c, by simpa [mkV] using q2.symm, fun hp => ?_⟩
          obtain ⟨ad, rfl, _⟩ := k3 hp
          rfl
        | junk => cases hf
        | pr => cases hf
      · cases hn
    · cases hn
  · cases hn

theorem does_nil (hT : TabOk P T) {n : Nat} (hn : nilTest T st o = some n) (hd : nonroot st o.dst = true) : Does P o st (fun st' => ∃ b, (0 < n → b = false) ∧ st' = setD st o.dst (.v false .bool b)) := by
  intro L a w next Q h hk
  unfold nilTest at hn
  split at hn
  · rename_i t x t2 ho
    split at hn
    · rename_i e s b nf fs cm hi0
      obtain ⟨hu, _⟩ := (hT t _ hi0).sl e s rfl rfl
      obtain ⟨A, c, hv, hA⟩ := len_some h (h.opnd x) hn
      have hg : Goes P o a w L st (.v false .bool A.isNone) := goes_o (v := .bool A.isNone) (by
        have he : a.eval (.const (.slice none 0 0)) = .slice none 0 0 := rfl
        simp only [execOp, ho, hv, he, Sem.run_bind]
        have h1 : (eqGuard .eql t x (.const (.slice none 0 0)) (.slice A n c) (.slice none 0 0)).run P w = .ok () w := by
          unfold eqGuard; simp
        have h2 : (binOp .eql t (.slice A n c) (.slice none 0 0)).run P w = .ok (.bool A.isNone) w := by
          have := run_equal_slice_nil (P := P) w t e A n c hu
          simp [binOp, this]
        rw [h1]
        simp only [Result.andThen_ok, h2]
        rfl) (Stp.refl _ _) h rfl (ORep.mkBool _)
      obtain ⟨v, w', hrun, hto⟩ := hg
      obtain ⟨L', q1, q2⟩ := hto o.dst (nonroot_spec hd)
      have := hk _ L' _ w' ⟨A.isNone, hA, rfl⟩ q1 q2
      unfold Oper.wp
      rcases hrun with hrun | ⟨hrun, rfl⟩
      · rw [hrun]; exact this
      · rw [hrun]; exact this
    · cases hn
  · cases hn
end
end Go.Proofs.Yteeklekfafedcaa.V

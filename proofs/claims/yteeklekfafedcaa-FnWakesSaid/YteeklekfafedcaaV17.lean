/- Control flow, the state made plain at the head of a loop, and a function's own law. No condition. -/
import Derived.Test.YteeklekfafedcaaV16
import Derived.LoopN
set_option linter.unusedVariables false
namespace Go.Proofs.Yteeklekfafedcaa.V
open Go Go.RowKit

/-- what one state tells, the other tells too -/
def Weak (st st' : St) : Prop := ∀ (L : Lay) (a : Act) (w : World), Rel L st a w Free → ∃ L', Stp L L' w w ∧ Rel L' st' a w Free
theorem Weak.refl (st : St) : Weak st st := fun L a w h => ⟨L, Stp.refl _ _, h⟩
theorem Weak.trans {a b c : St} (h : Weak a b) (k : Weak b c) : Weak a c := fun L x w hr => by
  obtain ⟨L1, s1, r1⟩ := h L x w hr
  obtain ⟨L2, s2, r2⟩ := k L1 x w r1
  exact ⟨L2, s1.trans s2, r2⟩

def capOut (ks : List Nat) : Cap → Bool
  | .adr g _ => !ks.contains g
  | .fadr .. => false
theorem capOut_any {ks : List Nat} {caps : List Cap} (h : caps.any isAdr = false) : caps.any (capOut ks) = false := by
  rw [List.any_eq_false] at h ⊢
  intro c hc
  have := h c hc
  cases c with
  | adr => simp [isAdr] at this
  | fadr => simp [capOut]
def usesOut (ks : List Nat) : PV → Bool
  | .h _ g _ => !ks.contains g
  | .adr g _ => !ks.contains g
  | .fn _ caps => caps.any (capOut ks)
  | _ => false
def keepAt (ks : List Nat) (st : St) (t : Nat) : PV := if ks.contains t && !usesOut ks (st.at t) then st.at t else .dead
def keepGo (ks : List Nat) : Nat → St → St
  | _, [] => []
  | i, pv :: r => (if ks.contains i && !usesOut ks pv then pv else .dead) :: keepGo ks (i + 1) r
def keepS (ks : List Nat) (st : St) : St := keepGo ks 0 st

theorem keepGo_len (ks : List Nat) : ∀ (st : St) (i : Nat), (keepGo ks i st).length = st.length
  | [], _ => rfl
  | pv :: r, i => by simp only [keepGo, List.length_cons, keepGo_len ks r]
theorem keepGo_get (ks : List Nat) : ∀ (st : St) (i t : Nat), (keepGo ks i st)[t]? = (st[t]?).map fun pv => if ks.contains (i + t) && !usesOut ks pv then pv else .dead
  | [], _, t => by simp [keepGo]
  | pv :: r, i, 0 => by simp [keepGo]
  | pv :: r, i, t + 1 => by
    simp only [keepGo, List.getElem?_cons_succ, keepGo_get ks r]
    rw [show i + 1 + t = i + (t + 1) by omega]
theorem keepS_len (ks : List Nat) (st : St) : (keepS ks st).length = st.length := keepGo_len ks st 0
theorem keepS_at (ks : List Nat) (st : St) (t : Nat) : (keepS ks st).at t = keepAt ks st t := by
  unfold keepS St.at keepAt
  rw [List.getD_eq_getElem?_getD, keepGo_get, Nat.zero_add]
  by_cases h : t < st.length
  · rw [List.getElem?_eq_getElem h]
    have e : st.at t = st[t] := by unfold St.at; rw [List.getD_eq_getElem?_getD, List.getElem?_eq_getElem h]; rfl
    rw [e]; rfl
  · rw [List.getElem?_eq_none (by omega), St.at_ge (by omega)]
    simp

theorem weak_keep (ks : List Nat) (st : St) : Weak st (keepS ks st) := by
  intro L a w h
  refine ⟨L, Stp.refl _ _, ⟨?_, h.defers, h.zlt, h.flt, h.dj, h.rlt, h.rdj, fun t ht => ?_⟩⟩
  · rw [h.size, keepS_len]
  · have ht' : t < st.length := by rwa [keepS_len] at ht
    rw [keepS_at]
    unfold keepAt
    split
    · rename_i hk
      simp only [Bool.and_eq_true, Bool.not_eq_true'] at hk
      have h1 := h.tmp t ht'
      rcases PV.root_or (st.at t) with ⟨k, s, f, x, hp⟩ | hp
      · rw [hp] at h1 ⊢; exact h1
      · rw [PVRep.of hp] at h1 ⊢
        have hpl : ∀ {g : Nat} {p : Path} {s1 : Sh} {cs1 : List Value} {ad1 : Option Addr}, ks.contains g = true → Place L st w g p s1 cs1 ad1 → Place L (keepS ks st) w g p s1 cs1 ad1 := by
          intro g p s1 cs1 ad1 hg ⟨k', s', f', x', e1, e2, e3, e4⟩
          refine ⟨k', s', f', x', ?_, e2, e3, e4⟩
          rw [keepS_at]
          unfold keepAt
          rw [e1]
          have hg' : g ∈ ks := by simpa using hg
          simp [hg', usesOut]
        refine ORep.places (fun _ h => h) (fun _ _ => rfl) (fun agg g p e s1 cs1 ad1 q1 q2 q3 => ?_) (fun g p e s1 cs1 A q1 => ?_) h1
        · refine ⟨s1, cs1, ad1, hpl ?_ q1, q2, q3⟩
          have := hk.2
          rw [e] at this
          simpa [usesOut] using this
        · refine ⟨cs1, hpl ?_ q1⟩
          have := hk.2
          rcases e with e | ⟨f', caps, e, hm⟩
          · rw [e] at this; simpa [usesOut] using this
          · rw [e] at this
            simp only [usesOut, List.any_eq_false] at this
            have := this _ hm
            simpa [capOut] using this
    · trivial

def renC (g d : Nat) : Cap → Cap
  | .adr g' p => .adr (if g' = g then d else g') p
  | c => c
def ren (g d : Nat) : PV → PV
  | .h a g' p => .h a (if g' = g then d else g') p
  | .adr g' p => .adr (if g' = g then d else g') p
  | .fn f caps => .fn f (caps.map (renC g d))
  | pv => pv
theorem ren_root {g d : Nat} {pv : PV} (h : pv.isRoot = false) : (ren g d pv).isRoot = false := by cases pv <;> first | rfl | cases h

/-- root g moves to slot d -/
def moveTo (st : St) (g d : Nat) (r : PV) : St := ((st.map (ren g d)).set g .dead).set d r

theorem moveTo_at {st : St} {g d : Nat} {r : PV} (hd : d < st.length) (t : Nat) : (moveTo st g d r).at t = if t = d then r else if t = g then .dead else ren g d (st.at t) := by
  unfold moveTo
  rw [St.at_set, List.length_set, List.length_map]
  by_cases h : t = d
  · rw [if_pos ⟨h, hd⟩, if_pos h]
  · rw [if_neg (fun e => h e.1), if_neg h, St.at_set, List.length_map]
    by_cases hg : t = g
    · rw [if_pos hg]
      by_cases hl : g < st.length
      · rw [if_pos ⟨hg, hl⟩]
      · rw [if_neg (fun e => hl e.2), St.at_map (by rfl), hg, St.at_ge (by omega)]; rfl
    · rw [if_neg (fun e => hg e.1), if_neg hg, St.at_map (by rfl)]

theorem weak_move {st : St} {g d : Nat} {k : RK} {s : Sh} {f : Fl} {x : s.ty} (hg : st.at g = .root k s f x) (hne : g ≠ d) (hdr : (st.at d).isRoot = false) (hdl : d < st.length)
    (hv : ∀ (L : Lay) (w : World) (v0 v : Value), RootAt w k s v0 (L.C g) (L.D g) → ORep L st w (st.at d) v → RootAt w k s v (L.C g) (L.D g)) : Weak st (moveTo st g d (.root k s f x)) := by
  intro L a w h
  let L' : Lay := ⟨L.Z, fun t => if t = d then L.F g else if t = g then Free else L.F t, fun t => if t = d then L.C g else L.C t, fun t => if t = d then L.D g else L.D t⟩
  have hF : ∀ t b, L'.F t b → ∃ t', L.F t' b ∧ (t = d → t' = g) ∧ (t ≠ d → t' = t ∧ t ≠ g) := by
    intro t b hb
    simp only [L'] at hb
    split at hb
    · rename_i e; exact ⟨g, hb, fun _ => rfl, fun e2 => absurd e e2⟩
    · rename_i e
      split at hb
      · exact hb.elim
      · rename_i e2; exact ⟨t, hb, fun e3 => absurd e3 e, fun _ => ⟨rfl, e2⟩⟩
  have hpl : ∀ {g' : Nat} {p : Path} {s1 : Sh} {cs1 : List Value} {ad1 : Option Addr}, Place L st w g' p s1 cs1 ad1 → Place L' (moveTo st g d (.root k s f x)) w (if g' = g then d else g') p s1 cs1 ad1 := by
    intro g' p s1 cs1 ad1 ⟨k', s', f', x', e1, e2, e3, e4⟩
    by_cases hgg : g' = g
    · subst hgg
      rw [hg] at e1
      rw [if_pos rfl]
      cases e1
      refine ⟨k, s, f, x, by rw [moveTo_at hdl, if_pos rfl], e2, e3, ?_⟩
      show sub w s (if d = d then L.C g' else _) (if d = d then L.D g' else _) p = _
      rw [if_pos rfl, if_pos rfl]; exact e4
    · rw [if_neg hgg]
      have hgd : g' ≠ d := fun e => by rw [e] at e1; rw [e1] at hdr; cases hdr
      refine ⟨k', s', f', x', by rw [moveTo_at hdl, if_neg hgd, if_neg hgg, e1]; rfl, e2, e3, ?_⟩
      show sub w s' (if g' = d then _ else L.C g') (if g' = d then _ else L.D g') p = _
      rw [if_neg hgd, if_neg hgd]; exact e4
  refine ⟨L', ⟨rfl, rfl, rfl, Nat.le_refl _, fun _ _ _ => rfl, rfl, fun t b hb => .inl (by obtain ⟨t', q, _⟩ := hF t b hb; exact ⟨t', q⟩)⟩, ⟨?_, h.defers, h.zlt, fun t b hb => ?_, fun t t' b hb hb' => ?_, fun b hb => hb.elim, fun t b _ hb => hb, fun t ht => ?_⟩⟩
  · rw [h.size]; simp [moveTo]
  · obtain ⟨t', q, _⟩ := hF t b hb; exact h.flt t' b q
  · obtain ⟨u, q1, q2, q3⟩ := hF t b hb
    obtain ⟨u', q1', q2', q3'⟩ := hF t' b hb'
    have huu := h.dj u u' b q1 q1'
    by_cases e1 : t = d <;> by_cases e2 : t' = d
    · omega
    · have := q2 e1; have := q3' e2; omega
    · have := q3 e1; have := q2' e2; omega
    · have := q3 e1; have := q3' e2; omega
  · have ht' : t < st.length := by simpa [moveTo] using ht
    rw [moveTo_at hdl]
    by_cases e1 : t = d
    · subst e1
      rw [if_pos rfl]
      obtain ⟨r1, B, r2, r3, r4⟩ := h.root hg
      have hC : L'.C t = L.C g := by simp [L']
      have hD : L'.D t = L.D g := by simp [L']
      have hFt : L'.F t = L.F g := by simp [L']
      refine ⟨?_, B, ?_, ?_, ?_⟩
      · rw [hC, hD]; exact hv L w _ _ r1 (h.orep hdr)
      · rw [hFt]; exact r2
      · rw [hD, hFt]; exact r3
      · rw [hC]; exact r4
    · rw [if_neg e1]
      by_cases e2 : t = g
      · rw [if_pos e2]; trivial
      · rw [if_neg e2]
        have h1 := h.tmp t ht'
        have hC : L'.C t = L.C t := by simp [L', e1]
        have hD : L'.D t = L.D t := by simp [L', e1]
        have hFt : L'.F t = L.F t := by simp [L', e1, e2]
        rcases PV.root_or (st.at t) with ⟨k', s', f', x', hp⟩ | hp
        · rw [hp] at h1 ⊢
          obtain ⟨q1, B, q2, q3, q4⟩ := h1
          show RRep L' w t k' s' f' x' _
          refine ⟨by rw [hC, hD]; exact q1, B, by rw [hFt]; exact q2, by rw [hD, hFt]; exact q3, by rw [hC]; exact q4⟩
        · rw [PVRep.of hp] at h1
          rw [PVRep.of (ren_root hp)]
          cases hpv : st.at t with
          | dead => trivial
          | v agg s' x' => rw [hpv] at h1; exact h1
          | emp => rw [hpv] at h1; exact h1
          | fadr s' x' => rw [hpv] at h1; exact h1
          | h agg g' p =>
            rw [hpv] at h1
            obtain ⟨s1, cs1, ad1, q1, q2, q3⟩ := h1
            exact ⟨s1, cs1, ad1, hpl q1, q2, q3⟩
          | adr g' p =>
            rw [hpv] at h1
            obtain ⟨s1, cs1, A, q1, q2⟩ := h1
            exact ⟨s1, cs1, A, hpl q1, q2⟩
          | fn f' caps =>
            rw [hpv] at h1
            obtain ⟨vs, q1, q2, q3⟩ := h1
            refine ⟨vs, q1, by simpa using q2, fun i c u hc hu => ?_⟩
            rw [List.getElem?_map] at hc
            obtain ⟨c0, hc0, rfl⟩ := Option.map_eq_some_iff.1 hc
            have := q3 i c0 u hc0 hu
            cases c0 with
            | adr g' p =>
              obtain ⟨s1, cs1, A, m1, m2⟩ := this
              exact ⟨s1, cs1, A, hpl m1, m2⟩
            | fadr s' x' => exact this
          | root => rw [hpv] at hp; cases hp

theorem weak_emp {st : St} {d : Nat} (hd : st.at d = .emp) (e : TypeId) (s : Sh) : Weak st (st.set d (.root (.val false) (.sl e s) .own [])) := by
  intro L a w h
  have hdl : d < st.length := by
    rcases Nat.lt_or_ge d st.length with h1 | h1
    · exact h1
    · rw [St.at_ge h1] at hd; cases hd
  have hv := h.orep (t := d) (by rw [hd]; rfl)
  rw [hd] at hv
  obtain ⟨A, hv⟩ := hv
  have := h.setR (d := d) (by rw [hd]; rfl) (k := .val false) (s := .sl e s) (f := .own) (x := []) (v := a.tmps.getD d undef) (cs := [a.tmps.getD d undef]) (ad := none) (B := Free) (Fd := Free) (R' := Free) ⟨rfl, fun _ => rfl, rfl⟩ (fun _ h => h) (fun A hA => by cases hA) (.inl ⟨A, by rw [hv], rfl⟩) (fun b hb => hb.elim) (fun b hb => hb.elim)
  have e1 : a.put (some d) (a.tmps.getD d undef) = a := by
    have hda : d < a.tmps.size := by rw [h.size]; exact hdl
    unfold Act.put
    simp only
    congr 1
    apply Array.ext_getElem?
    intro i
    rw [Array.getElem?_setIfInBounds]
    split
    · rename_i hi; subst hi; simp [hda]
    · rfl
  rw [e1] at this
  refine ⟨L.set d Free [a.tmps.getD d undef] none, ⟨rfl, rfl, rfl, Nat.le_refl _, fun _ _ _ => rfl, rfl, fun t b hb => ?_⟩, this⟩
  simp only [Lay.set] at hb
  split at hb
  · exact hb.elim
  · exact .inl ⟨t, hb⟩

def homeOne (st : St) (d : Nat) (em : Option (TypeId × Sh)) : St :=
  match st.at d with
  | .h agg g [] => match st.at g with
    | .root (.val agg') s f x => if agg = agg' ∧ g ≠ d then moveTo st g d (.root (.val agg') s f x) else st
    | _ => st
  | .adr g [] => match st.at g with
    | .root (.box t) s f x => if g ≠ d then moveTo st g d (.root (.box t) s f x) else st
    | _ => st
  | .emp => match em with
    | some (e, s) => st.set d (.root (.val false) (.sl e s) .own [])
    | none => st
  | _ => st

theorem weak_home (st : St) (d : Nat) (em : Option (TypeId × Sh)) : Weak st (homeOne st d em) := by
  unfold homeOne
  have hlt : ∀ pv, st.at d = pv → pv ≠ .dead → d < st.length := fun pv e hne => by
    rcases Nat.lt_or_ge d st.length with hl | hl
    · exact hl
    · rw [St.at_ge hl] at e; exact absurd e.symm hne
  split
  · rename_i agg g hd
    split
    · rename_i agg' s f x hg
      split
      · rename_i hc
        obtain ⟨rfl, hne⟩ := hc
        refine weak_move hg hne (by rw [hd]; rfl) (hlt _ hd (by simp)) fun L w v0 v h1 h2 => ?_
        rw [hd] at h2
        obtain ⟨s1, cs1, ad1, ⟨k', s', f', x', e1, e2, e3, e4⟩, q2, q3⟩ := h2
        rw [sub_nil] at e4
        obtain ⟨rfl, rfl⟩ := Prod.mk.inj (Option.some.inj e4)
        exact ⟨q2, h1.2.1, h1.2.2⟩
      · exact Weak.refl _
    · exact Weak.refl _
  · rename_i g hd
    split
    · rename_i t s f x hg
      split
      · rename_i hne
        refine weak_move hg hne (by rw [hd]; rfl) (hlt _ hd (by simp)) fun L w v0 v h1 h2 => ?_
        rw [hd] at h2
        obtain ⟨s1, cs1, A, ⟨k', s', f', x', e1, e2, e3, e4⟩, q2⟩ := h2
        rw [sub_nil] at e4
        obtain ⟨rfl, e5⟩ := Prod.mk.inj (Option.some.inj e4)
        obtain ⟨b, m1, m2, m3⟩ := h1
        rw [m3] at e5
        obtain rfl := Option.some.inj e5
        exact ⟨b, q2, m2, m3⟩
      · exact Weak.refl _
    · exact Weak.refl _
  · rename_i hd
    split
    · exact weak_emp hd _ _
    · exact Weak.refl _
  · exact Weak.refl _

/-- the state at the head of a loop: the slots that live, each root at home -/
def norm (ks : List (Nat × Option (TypeId × Sh))) (st : St) : St := keepS (ks.map (·.1)) (ks.foldl (fun st k => homeOne st k.1 k.2) st)
theorem weak_norm (ks : List (Nat × Option (TypeId × Sh))) (st : St) : Weak st (norm ks st) := by
  refine Weak.trans ?_ (weak_keep _ _)
  generalize ks = l
  induction l generalizing st with
  | nil => exact Weak.refl _
  | cons k l ih => exact (weak_home st k.1 k.2).trans (ih _)

section
variable {P : Program} {st : St} {Q : Exit → St → Prop}

theorem VW.mono {c : Code} {Q' : Exit → St → Prop} (h : VW P c st Q) (k : ∀ e s, Q e s → Q' e s) : VW P c st Q' := fun L a w hr => wp_mono (h L a w hr) fun e a' w' ⟨L', st', s, r, q⟩ => ⟨L', st', s, r, k _ _ q⟩

theorem VW.weak {c : Code} {st' : St} (hw : Weak st st') (h : VW P c st' Q) : VW P c st Q := fun L a w hr => by
  obtain ⟨L', s', r'⟩ := hw L a w hr
  exact wp_mono (h L' a w r') fun e a' w' ⟨L2, st2, s, r, q⟩ => ⟨L2, st2, s'.trans s, r, q⟩

theorem VW.skip (h : Q .normal st) : VW P .skip st Q := fun L a w hr => wp_skip ⟨L, st, Stp.refl _ _, hr, h⟩
theorem VW.exit {id : Nat} (h : Q (.exit id) st) : VW P (.exit id) st Q := fun L a w hr => wp_exit ⟨L, st, Stp.refl _ _, hr, h⟩
theorem VW.ret (h : Q .ret st) : VW P .ret st Q := fun L a w hr => wp_ret ⟨L, st, Stp.refl _ _, hr, h⟩

/-- what follows -/
def vthen (P : Program) (y : Code) (Q : Exit → St → Prop) : Exit → St → Prop
  | .normal, st => VW P y st Q
  | e, st => Q e st
theorem vthen_n {y : Code} (h : VW P y st Q) : vthen P y Q .normal st := h
theorem VW.seq {x y : Code} (h : VW P x st (vthen P y Q)) : VW P (.seq x y) st Q := fun L a w hr => by
  refine wp_seq (wp_mono (h L a w hr) fun e a' w' ⟨L', st', s, r, q⟩ => ?_)
  cases e with
  | normal => exact wp_mono (q L' a' w' r) fun e2 a2 w2 ⟨L2, st2, s2, r2, q2⟩ => ⟨L2, st2, s.trans s2, r2, q2⟩
  | _ => exact ⟨L', st', s, r, q⟩

theorem VW.cond {c : Operand} {x y : Code} {b : Bool} (hc : ev st c = .v false .bool b) (ht : b = true → VW P x st Q) (hf : b = false → VW P y st Q) : VW P (.cond c x y) st Q := fun L a w hr =>
  wp_cond_split (ev_bool hr hc) (fun e => ht e L a w hr) (fun e => hf e L a w hr)

def vblock (id : Nat) (Q : Exit → St → Prop) : Exit → St → Prop
  | .exit id', st => if id' = id then Q .normal st else Q (.exit id') st
  | e, st => Q e st
theorem VW.block {id : Nat} {c : Code} (h : VW P c st (vblock id Q)) : VW P (.block id c) st Q := fun L a w hr => by
  refine wp_block (wp_mono (h L a w hr) fun e a' w' ⟨L', st', s, r, q⟩ => ?_)
  cases e with
  | exit id' =>
    simp only [vblock] at q
    simp only [Exit.inBlock]
    split
    · rename_i e; rw [if_pos e] at q; exact ⟨L', st', s, r, q⟩
    · rename_i e; rw [if_neg e] at q; exact ⟨L', st', s, r, q⟩
  | _ => exact ⟨L', st', s, r, q⟩

def vround {α : Type} (ks : List (Nat × Option (TypeId × Sh))) (head : α → St) (inv : α → Prop) (μ : α → Nat) (Q : Exit → St → Prop) (p : α) : Exit → St → Prop
  | .normal, st => ∃ p', inv p' ∧ norm ks st = head p' ∧ μ p' < μ p
  | e, st => Q e st
theorem VW.loop {α : Type} {c : Code} (ks : List (Nat × Option (TypeId × Sh))) (head : α → St) (inv : α → Prop) (μ : α → Nat) (h0 : ∃ p, inv p ∧ norm ks st = head p) (round : ∀ p, inv p → VW P c (head p) (vround ks head inv μ Q p)) : VW P (.loop c) st Q := by
  have key : ∀ n p, inv p → μ p < n → ∀ L a w, Rel L (head p) a w Free → ∀ L0 w0, Stp L0 L w0 w → Code.rounds P c (fun e a' w' => ∃ L' st', Stp L0 L' w0 w' ∧ Rel L' st' a' w' Free ∧ Q e st') n a w := by
    intro n
    induction n with
    | zero => intro p _ hn; omega
    | succ n ih =>
      intro p hp hn L a w hr L0 w0 hs
      rw [rounds_succ]
      refine wp_mono (round p hp L a w hr) fun e a' w' ⟨L', st', s, r, q⟩ => ?_
      cases e with
      | normal =>
        obtain ⟨p', q1, q2, q3⟩ := q
        obtain ⟨L2, s2, r2⟩ := weak_norm ks st' L' a' w' r
        rw [q2] at r2
        exact ih p' q1 (by omega) L2 a' w' r2 L0 w0 ((hs.trans s).trans s2)
      | _ => exact ⟨L', st', hs.trans s, r, q⟩
  intro L a w hr
  obtain ⟨p, hp, e⟩ := h0
  obtain ⟨L1, s1, r1⟩ := weak_norm ks st L a w hr
  rw [e] at r1
  exact wp_loop_rounds (μ p + 1) (key _ p hp (Nat.lt_succ_self _) L1 a w r1 L w s1)
end

end Go.Proofs.Yteeklekfafedcaa.V

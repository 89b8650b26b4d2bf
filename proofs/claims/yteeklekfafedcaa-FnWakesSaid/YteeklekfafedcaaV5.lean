/- Steps of the state: a slot is set, a place is written, what is own is moved. No condition. -/
import Derived.Test.YteeklekfafedcaaV4
set_option linter.unusedVariables false
namespace Go.Proofs.Yteeklekfafedcaa.V
open Go Go.RowKit

theorem csub_none {w : World} {n : List Value} : ∀ (p : Path) {s : Sh} {cs : List Value} {cs1 : List Value} {A : Addr}, sub w s cs none p = some (cs1, some A) → csub s cs p n = cs := by
  intro p
  induction p with
  | nil => intro s cs cs1 A h; rw [sub_nil] at h; cases (Prod.mk.inj (Option.some.inj h)).2
  | cons st p ih =>
    intro s cs cs1 A h
    cases s with
    | pr a b =>
      cases st with
      | l => simp only [sub] at h; simp only [csub]; rw [ih h, List.take_append_drop]
      | r => simp only [sub, Option.map_none] at h; simp only [csub]; rw [ih h, List.take_append_drop]
      | el i => simp [sub] at h
    | sl e s0 => cases st <;> first | rfl | simp [sub] at h
    | unit => simp [sub] at h
    | int _ => simp [sub] at h
    | bool => simp [sub] at h
    | str => simp [sub] at h

theorem hit_or (g : Nat) (p : Path) (pv : PV) : hit g p pv = .dead ∨ hit g p pv = pv := by
  unfold hit
  split <;> (try split) <;> simp
theorem hitS_or (g : Nat) (p : Path) (pv : PV) : hitS g p pv = .dead ∨ hitS g p pv = pv := by
  unfold hitS
  split <;> (try split) <;> simp
theorem getD_set_eq {a : Array Value} {d : Nat} {v : Value} (t : Nat) : (a.setIfInBounds d v).getD t undef = if t = d ∧ d < a.size then v else a.getD t undef := by
  simp only [Array.getD_eq_getD_getElem?, Array.getElem?_setIfInBounds]
  by_cases h : d = t
  · subst h
    by_cases hl : d < a.size
    · simp [hl]
    · simp [hl]
  · have h' : ¬ t = d := fun e => h e.symm
    simp [h, h']

section
variable {L : Lay} {st : St} {a : Act} {w : World} {R : Nat → Prop}

theorem Place.set {d : Nat} {pv : PV} (hd : (st.at d).isRoot = false) {g : Nat} {p : Path} {s1 : Sh} {cs1 : List Value} {ad1 : Option Addr} (hp : Place L st w g p s1 cs1 ad1) : Place L (st.set d pv) w g p s1 cs1 ad1 := by
  obtain ⟨k, s, f, x, e1, e2, e3, e4⟩ := hp
  refine ⟨k, s, f, x, ?_, e2, e3, e4⟩
  rw [St.at_set, if_neg (fun h => ?_)]
  · exact e1
  · rw [← h.1, e1] at hd; cases hd
/-- what hangs on places that stay hangs on -/
theorem ORep.places {L' : Lay} {st' : St} {w' : World} (hz : ∀ b, L.Z b → L'.Z b) (hw : ∀ b, L.Z b → w'.heap[b]? = w.heap[b]?) {pv : PV} {v : Value}
    (hh : ∀ agg g p, pv = .h agg g p → ∀ s1 cs1 ad1, Place L st w g p s1 cs1 ad1 → mkV agg cs1 v → (agg = false → s1.isSl = true) → ORep L' st' w' (.h agg g p) v)
    (ha : ∀ g p, (pv = .adr g p ∨ ∃ f caps, pv = .fn f caps ∧ Cap.adr g p ∈ caps) → ∀ s1 cs1 A, Place L st w g p s1 cs1 (some A) → ∃ cs2, Place L' st' w' g p s1 cs2 (some A)) (h : ORep L st w pv v) : ORep L' st' w' pv v := by
  cases pv with
  | dead => trivial
  | v agg s x => obtain ⟨cs, h1, h2⟩ := h; exact ⟨cs, h1, h2.frame hz (fun b hb => hw b (hb.resolve_right id))⟩
  | emp => exact h
  | h agg g p => obtain ⟨s1, cs1, ad1, h1, h2, h3⟩ := h; exact hh agg g p rfl s1 cs1 ad1 h1 h2 h3
  | adr g p => obtain ⟨s1, cs1, A, h1, h2⟩ := h; obtain ⟨cs2, h3⟩ := ha g p (.inl rfl) s1 cs1 A h1; exact ⟨s1, cs2, A, h3, h2⟩
  | fadr s x => exact FaRep.ext (Z := L.Z) hz hw h
  | fn f caps =>
    obtain ⟨vs, h1, h2, h3⟩ := h
    refine ⟨vs, h1, h2, fun i c u hc hu => ?_⟩
    have := h3 i c u hc hu
    cases c with
    | adr g p =>
      obtain ⟨s1, cs1, A, q1, q2⟩ := this
      obtain ⟨cs2, h4⟩ := ha g p (.inr ⟨f, caps, rfl, List.mem_of_getElem? hc⟩) s1 cs1 A q1
      exact ⟨s1, cs2, A, h4, q2⟩
    | fadr s x => exact FaRep.ext (Z := L.Z) hz hw this
  | root => exact h
theorem ORep.set {d : Nat} {pv' : PV} (hd : (st.at d).isRoot = false) {pv : PV} {v : Value} (h : ORep L st w pv v) : ORep L (st.set d pv') w pv v :=
  ORep.places (fun _ h => h) (fun _ _ => rfl) (fun agg g p e s1 cs1 ad1 h1 h2 h3 => ⟨s1, cs1, ad1, h1.set hd, h2, h3⟩) (fun g p _ s1 cs1 A h1 => ⟨cs1, h1.set hd⟩) h

/-- a slot is set to what is no root -/
theorem Rel.setO (h : Rel L st a w R) {d : Nat} (hd : (st.at d).isRoot = false) {pv : PV} {v : Value} (hn : pv.isRoot = false) (hp : ORep L st w pv v) : Rel L (st.set d pv) (a.put (some d) v) w R where
  size := by show (a.tmps.setIfInBounds d v).size = _; rw [Array.size_setIfInBounds, List.length_set]; exact h.size
  defers := h.defers
  zlt := h.zlt
  flt := h.flt
  dj := h.dj
  rlt := h.rlt
  rdj := h.rdj
  tmp := fun t ht => by
    rw [List.length_set] at ht
    show PVRep L (st.set d pv) w t (St.at (st.set d pv) t) ((a.tmps.setIfInBounds d v).getD t undef)
    rw [St.at_set, getD_set_eq, h.size]
    by_cases hc : t = d ∧ d < st.length
    · rw [if_pos hc, if_pos hc, PVRep.of hn]; exact hp.set hd
    · rw [if_neg hc, if_neg hc]
      have h1 := h.tmp t ht
      rcases PV.root_or (st.at t) with ⟨k, s, f, x, hp'⟩ | hp'
      · rw [hp'] at h1 ⊢; exact h1
      · rw [PVRep.of hp'] at h1 ⊢; exact h1.set hd
theorem Rel.setN (h : Rel L st a w R) (v : Value) : Rel L st (a.put none v) w R := h

def Lay.set (L : Lay) (d : Nat) (F : Nat → Prop) (C : List Value) (D : Option Addr) : Lay := ⟨L.Z, fun t => if t = d then F else L.F t, fun t => if t = d then C else L.C t, fun t => if t = d then D else L.D t⟩

/-- a slot is set to a root: its blocks come of what is detached, or are new -/
theorem Rel.setR (h : Rel L st a w R) {d : Nat} (hd : (st.at d).isRoot = false) {k : RK} {s : Sh} {f : Fl} {x : s.ty} {v : Value} {cs : List Value} {ad : Option Addr} {B Fd R' : Nat → Prop}
    (h1 : RootAt w k s v cs ad) (h2 : ∀ b, B b → Fd b) (h3 : ∀ A, ad = some A → ¬ B A.block ∧ Fd A.block) (h4 : Rep w L.Z s f x cs B) (h5 : ∀ b, Fd b → b < w.heap.size ∧ ¬ L.Z b ∧ (∀ t, ¬ L.F t b)) (h6 : ∀ b, R' b → R b ∧ ¬ Fd b) :
    Rel (L.set d Fd cs ad) (st.set d (.root k s f x)) (a.put (some d) v) w R' := by
  have hpl : ∀ {g : Nat} {p : Path} {s1 : Sh} {cs1 : List Value} {ad1 : Option Addr}, Place L st w g p s1 cs1 ad1 → Place (L.set d Fd cs ad) (st.set d (.root k s f x)) w g p s1 cs1 ad1 := by
    intro g p s1 cs1 ad1 hp
    have hg : g ≠ d := by
      obtain ⟨k', s', f', x', e1, _⟩ := hp
      intro e
      rw [← e, e1] at hd; cases hd
    obtain ⟨k', s', f', x', e1, e2, e3, e4⟩ := hp.set (pv := .root k s f x) hd
    refine ⟨k', s', f', x', e1, e2, e3, ?_⟩
    simp only [Lay.set, if_neg hg]
    exact e4
  refine ⟨by show (a.tmps.setIfInBounds d v).size = _; rw [Array.size_setIfInBounds, List.length_set]; exact h.size, h.defers, h.zlt, fun t b hb => ?_, fun t t' b hb hb' => ?_, fun b hb => h.rlt b (h6 b hb).1, fun t b hb hr => ?_, fun t ht => ?_⟩
  · simp only [Lay.set] at hb
    split at hb
    · exact ⟨(h5 b hb).1, (h5 b hb).2.1⟩
    · exact h.flt t b hb
  · simp only [Lay.set] at hb hb'
    split at hb <;> split at hb'
    · rename_i e1 e2; rw [e1, e2]
    · exact absurd hb' ((h5 b hb).2.2 _)
    · exact absurd hb ((h5 b hb').2.2 _)
    · exact h.dj t t' b hb hb'
  · simp only [Lay.set] at hb
    split at hb
    · exact (h6 b hr).2 hb
    · exact h.rdj t b hb (h6 b hr).1
  · rw [List.length_set] at ht
    show PVRep _ _ w t (St.at (st.set d (.root k s f x)) t) ((a.tmps.setIfInBounds d v).getD t undef)
    rw [St.at_set, getD_set_eq, h.size]
    by_cases hc : t = d ∧ d < st.length
    · rw [if_pos hc, if_pos hc]
      obtain ⟨rfl, _⟩ := hc
      refine ⟨?_, B, ?_, ?_, ?_⟩
      · simp only [Lay.set, if_true]; exact h1
      · intro b hb; simp only [Lay.set, if_true]; exact h2 b hb
      · intro A hA; simp only [Lay.set, if_true] at hA ⊢; exact h3 A hA
      · simp only [Lay.set, if_true]; exact h4
    · rw [if_neg hc, if_neg hc]
      have h1 := h.tmp t ht
      have htd : t ≠ d := fun e => hc ⟨e, e ▸ ht⟩
      rcases PV.root_or (st.at t) with ⟨k', s', f', x', hp'⟩ | hp'
      · rw [hp'] at h1 ⊢
        obtain ⟨r1, B', r2, r3, r4⟩ := h1
        refine ⟨?_, B', ?_, ?_, ?_⟩
        · simp only [Lay.set, if_neg htd]; exact r1
        · intro b hb; simp only [Lay.set, if_neg htd]; exact r2 b hb
        · intro A hA; simp only [Lay.set, if_neg htd] at hA ⊢; exact r3 A hA
        · simp only [Lay.set, if_neg htd]; exact r4
      · rw [PVRep.of hp'] at h1 ⊢
        exact ORep.places (L := L) (L' := L.set d Fd cs ad) (st := st) (fun _ h => h) (fun _ _ => rfl) (fun agg g p e s1 cs1 ad1 q1 q2 q3 => ⟨s1, cs1, ad1, hpl q1, q2, q3⟩) (fun g p _ s1 cs1 A q1 => ⟨cs1, hpl q1⟩) h1

/-- slots that are no roots are forgotten -/
theorem Rel.forget (h : Rel L st a w R) {st' : St} (hl : st'.length = st.length) (hk : ∀ t, st'.at t = st.at t ∨ (st'.at t = .dead ∧ (st.at t).isRoot = false)) : Rel L st' a w R := by
  have hpl : ∀ {g : Nat} {p : Path} {s1 : Sh} {cs1 : List Value} {ad1 : Option Addr}, Place L st w g p s1 cs1 ad1 → Place L st' w g p s1 cs1 ad1 := by
    intro g p s1 cs1 ad1 ⟨k', s', f', x', e1, e2, e3, e4⟩
    refine ⟨k', s', f', x', ?_, e2, e3, e4⟩
    rcases hk g with e | ⟨_, e⟩
    · rw [e]; exact e1
    · rw [e1] at e; cases e
  refine ⟨h.size.trans hl.symm, h.defers, h.zlt, h.flt, h.dj, h.rlt, h.rdj, fun t ht => ?_⟩
  have h1 := h.tmp t (by omega)
  rcases hk t with e | ⟨e, _⟩
  · rw [e]
    rcases PV.root_or (st.at t) with ⟨k', s', f', x', hp'⟩ | hp'
    · rw [hp'] at h1 ⊢; exact h1
    · rw [PVRep.of hp'] at h1 ⊢
      exact ORep.places (fun _ h => h) (fun _ _ => rfl) (fun agg g p e s1 cs1 ad1 q1 q2 q3 => ⟨s1, cs1, ad1, hpl q1, q2, q3⟩) (fun g p _ s1 cs1 A q1 => ⟨cs1, hpl q1⟩) h1
  · rw [e]; trivial

/-- a root that nothing hangs on any more is let go; its blocks are detached -/
theorem Rel.gone (h : Rel L st a w R) {g : Nat} {k : RK} {s : Sh} {f : Fl} {x : s.ty} (hg : st.at g = .root k s f x) :
    ∃ B : Nat → Prop, Rel ⟨L.Z, fun t b => if t = g then False else L.F t b, L.C, L.D⟩ ((st.map (drop g)).set g .dead) a w (fun b => R b ∨ L.F g b) ∧ (∀ b, B b → L.F g b) ∧ Rep w L.Z s f x (L.C g) B := by
  obtain ⟨r1, B, r2, r3, r4⟩ := h.root hg
  refine ⟨B, ?_, r2, r4⟩
  have hat : ∀ t, St.at ((st.map (drop g)).set g .dead) t = if t = g then .dead else drop g (st.at t) := by
    intro t
    rw [St.at_set, List.length_map]
    by_cases ht : t = g
    · rw [if_pos ⟨ht, root_lt hg⟩, if_pos ht]
    · rw [if_neg (fun h => ht h.1), if_neg ht]
      exact St.at_map (by simp [drop, usesG])
  have hpl : ∀ {g' : Nat} {p : Path} {s1 : Sh} {cs1 : List Value} {ad1 : Option Addr}, g' ≠ g → Place L st w g' p s1 cs1 ad1 → Place ⟨L.Z, fun t b => if t = g then False else L.F t b, L.C, L.D⟩ ((st.map (drop g)).set g .dead) w g' p s1 cs1 ad1 := by
    intro g' p s1 cs1 ad1 hne ⟨k', s', f', x', e1, e2, e3, e4⟩
    refine ⟨k', s', f', x', ?_, e2, e3, e4⟩
    rw [hat, if_neg hne, e1]
    simp [drop, usesG]
  refine ⟨?_, h.defers, h.zlt, fun t b hb => ?_, fun t t' b hb hb' => ?_, fun b hb => ?_, fun t b hb hr => ?_, fun t ht => ?_⟩
  · rw [h.size, List.length_set, List.length_map]
  · simp only at hb
    split at hb
    · exact hb.elim
    · exact h.flt t b hb
  · simp only at hb hb'
    split at hb
    · exact hb.elim
    · split at hb'
      · exact hb'.elim
      · exact h.dj t t' b hb hb'
  · rcases hb with hb | hb
    · exact h.rlt b hb
    · exact h.flt g b hb
  · simp only at hb
    split at hb
    · exact hb.elim
    · rename_i hne
      rcases hr with hr | hr
      · exact h.rdj t b hb hr
      · exact hne (h.dj t g b hb hr)
  · rw [List.length_set, List.length_map] at ht
    rw [hat]
    by_cases htg : t = g
    · rw [if_pos htg]; trivial
    · rw [if_neg htg]
      have h1 := h.tmp t ht
      rcases PV.root_or (st.at t) with ⟨k', s', f', x', hp'⟩ | hp'
      · rw [hp'] at h1 ⊢
        have e : drop g (.root k' s' f' x') = .root k' s' f' x' := by simp [drop, usesG]
        rw [e]
        obtain ⟨q1, B', q2, q3, q4⟩ := h1
        refine ⟨q1, B', fun b hb => ?_, fun A hA => ⟨(q3 A hA).1, ?_⟩, q4⟩
        · simp only [if_neg htg]; exact q2 b hb
        · simp only [if_neg htg]; exact (q3 A hA).2
      · rw [PVRep.of hp'] at h1
        unfold drop
        by_cases hu : usesG g (st.at t) = true
        · rw [if_pos hu]; trivial
        · rw [if_neg hu, PVRep.of hp']
          refine ORep.places (L' := ⟨L.Z, fun t b => if t = g then False else L.F t b, L.C, L.D⟩) (fun _ h => h) (fun _ _ => rfl) (fun agg g' p e s1 cs1 ad1 q1 q2 q3 => ?_) (fun g' p e s1 cs1 A q1 => ?_) h1
          · refine ⟨s1, cs1, ad1, hpl (fun e' => hu ?_) q1, q2, q3⟩
            rw [e]; simp [usesG, e']
          · refine ⟨cs1, hpl (fun e' => hu ?_) q1⟩
            rcases e with e | ⟨f', caps, e, hm⟩
            · rw [e]; simp [usesG, e']
            · rw [e]
              simp only [usesG, List.any_eq_true]
              exact ⟨_, hm, by simp [capUses, e']⟩

/-- A PLACE IS WRITTEN, or marked anew. -/
theorem Rel.put (h : Rel L st a w R) {g : Nat} {k : RK} {s : Sh} {f : Fl} {x : s.ty} (hg : st.at g = .root k s f x) {p : Path} {s1 : Sh} {cs1 : List Value} {ad1 : Option Addr} (hP : Place L st w g p s1 cs1 ad1) :
    ∃ f1 x1, get s f x p = some ⟨s1, f1, x1⟩ ∧ ∃ B1 : Nat → Prop, (∀ b, B1 b → L.F g b) ∧ Rep w L.Z s1 f1 x1 cs1 B1 ∧ At w ad1 cs1 ∧ (∀ A, ad1 = some A → L.F g A.block ∧ ¬ B1 A.block) ∧
      ∀ (w' : World) (n : List Value) (f2 : Fl) (x2 : s1.ty) (B2 R' : Nat → Prop) (f' : Fl) (x' : s.ty) (kill : Nat → Path → PV → PV), Chg w w' ad1 cs1 n → w'.heap.size = w.heap.size → Rep w' L.Z s1 f2 x2 n B2 →
        (∀ b, B2 b → R b ∨ B1 b) → (∀ b, R' b → (R b ∨ B1 b) ∧ ¬ B2 b) → upd s1 f2 x2 s f x p = some (f', x') → (kill = hit ∨ (kill = hitS ∧ n = cs1)) →
        Rel ⟨L.Z, fun t b => if t = g then (L.F g b ∧ ¬ B1 b) ∨ B2 b else L.F t b, fun t => if t = g then csub s (L.C g) p n else L.C t, L.D⟩ ((st.map (kill g p)).set g (.root k s f' x')) a w' R' := by
  obtain ⟨k0, s0, f0, x0, e1, e2, ⟨f1, x1, e3⟩, e4⟩ := hP
  rw [hg] at e1
  injection e1 with i1 i2 i3 i4
  subst i1; subst i2; subst i3
  obtain rfl := eq_of_heq i4
  obtain ⟨r1, B, r2, r3, r4⟩ := h.root hg
  have hNB : ∀ A, L.D g = some A → ¬ B A.block := fun A hA => (r3 A hA).1
  obtain ⟨cs1', ad1', B1, t1, t2, t3, t4, t5, t6, t7⟩ := lens p r4 r1.at_ hNB e2 e3
  have hs := e4
  rw [t1] at hs
  obtain ⟨rfl, rfl⟩ := Prod.mk.inj (Option.some.inj hs)
  have hAF : ∀ A, ad1' = some A → L.F g A.block ∧ ¬ B1 A.block := fun A hA => by
    refine ⟨?_, t5 A hA⟩
    rcases t3.block A hA with ⟨A0, u1, u2⟩ | u
    · rw [← u2]; exact (r3 A0 u1).2
    · exact r2 _ u
  refine ⟨f1, x1, e3, B1, fun b hb => r2 b (t4 b hb), t6, t2, hAF, ?_⟩
  intro w' n f2 x2 B2 R' f' x' kill hC hsz hR2 hB2 hR' hu hk
  have hn : n.length = cs1'.length := hR2.len.trans t6.len.symm
  have hZ : ∀ A, ad1' = some A → w' ≠ w → ¬ L.Z A.block := fun A hA _ => (h.flt g _ (hAF A hA).1).2
  have hBx : ∀ b, B2 b → ¬ (L.F g b ∧ ¬ B1 b) := fun b hb hh => by
    rcases hB2 b hb with hr | hr
    · exact h.rdj g b hh.1 hr
    · exact hh.2 hr
  obtain ⟨v1, v2⟩ := t7 w' n f2 x2 B2 f' x' hC hZ (fun b hb hh => hBx b hb ⟨r2 b hh.1, hh.2⟩) (fun A hA hb => hBx _ hb ⟨(r3 A hA).2, fun hb1 => hNB A hA (t4 _ hb1)⟩) (fun A hA hb => hBx _ hb (hAF A hA)) hR2 hu
  -- the blocks that are not written
  have hoth : ∀ b, ¬ L.F g b → w'.heap[b]? = w.heap[b]? := fun b hb => hC.other b (fun A hA e => hb (e ▸ (hAF A hA).1))
  have hzo : ∀ b, L.Z b → w'.heap[b]? = w.heap[b]? := fun b hb => hoth b (fun hf => (h.flt g b hf).2 hb)
  have hat : ∀ t, St.at ((st.map (kill g p)).set g (.root k s f' x')) t = if t = g then .root k s f' x' else kill g p (st.at t) := by
    intro t
    rw [St.at_set, List.length_map]
    by_cases ht : t = g
    · rw [if_pos ⟨ht, root_lt hg⟩, if_pos ht]
    · rw [if_neg (fun h => ht h.1), if_neg ht]
      refine St.at_map ?_
      rcases hk with rfl | ⟨rfl, _⟩ <;> rfl
  have hkr : ∀ k0 s0 f0 x0, kill g p (.root k0 s0 f0 x0) = .root k0 s0 f0 x0 := by
    intro k0 s0 f0 x0
    rcases hk with rfl | ⟨rfl, _⟩ <;> rfl
  -- places that stay
  have hpo : ∀ {g' : Nat} {q : Path} {s3 : Sh} {cs3 : List Value} {ad3 : Option Addr}, g' ≠ g → Place L st w g' q s3 cs3 ad3 → Place ⟨L.Z, fun t b => if t = g then (L.F g b ∧ ¬ B1 b) ∨ B2 b else L.F t b, fun t => if t = g then csub s (L.C g) p n else L.C t, L.D⟩ ((st.map (kill g p)).set g (.root k s f' x')) w' g' q s3 cs3 ad3 := by
    intro g' q s3 cs3 ad3 hne ⟨k', s', f'', x'', u1, u2, u3, u4⟩
    refine ⟨k', s', f'', x'', by rw [hat, if_neg hne, u1, hkr], u2, u3, ?_⟩
    simp only [if_neg hne]
    obtain ⟨_, B', y2, y3, y4⟩ := h.root u1
    rw [sub_frame q y4 u2 (fun b hb => hoth b (fun hf => hne (h.dj g' g b (y2 b hb) hf)))]
    exact u4
  have hpg : ∀ {q : Path} {s3 : Sh} {cs3 : List Value} {ad3 : Option Addr}, below p q = false → Place L st w g q s3 cs3 ad3 → ∃ cs4, Place ⟨L.Z, fun t b => if t = g then (L.F g b ∧ ¬ B1 b) ∨ B2 b else L.F t b, fun t => if t = g then csub s (L.C g) p n else L.C t, L.D⟩ ((st.map (kill g p)).set g (.root k s f' x')) w' g q s3 cs4 ad3 ∧ (Path.pre p q = false ∨ n = cs1' → s3.isSl = true → cs4 = cs3) := by
    intro q s3 cs3 ad3 hb ⟨k', s', f'', x'', u1, u2, ⟨f3, x3, u3⟩, u4⟩
    rw [hg] at u1
    injection u1 with i1 i2 i3 i4
    subst i1; subst i2; subst i3
    obtain rfl := eq_of_heq i4
    obtain ⟨w1, f4, x4, w2⟩ := upd_other p q hu hb u2 u3
    obtain ⟨cs4, z1, z2⟩ := lens_q p q r4 r1.at_ hNB e2 e3 t1 hC hn hb u2 u3 u4
    refine ⟨cs4, ⟨k, s, f', x', by rw [hat, if_pos rfl], w1, ⟨f4, x4, w2⟩, ?_⟩, ?_⟩
    · simp only [if_true]; exact z1
    · rintro (hq | hq) hsl
      · exact z2 hq hsl
      · by_cases hpq : Path.pre p q = true
        · -- q is p: its cells are n
          have hqp : Path.pre q p = true := by
            simp only [below, hpq, Bool.true_and, Bool.not_eq_false'] at hb; exact hb
          have hpqe : p = q := by
            have aux : ∀ p q : Path, Path.pre p q = true → Path.pre q p = true → p = q := by
              intro p
              induction p with
              | nil => intro q _ h2; exact (pre_nil q h2).symm
              | cons a p ih =>
                intro q h1 h2
                cases q with
                | nil => simp [Path.pre] at h1
                | cons b q =>
                  simp only [Path.pre, Bool.and_eq_true, beq_iff_eq] at h1 h2
                  rw [h1.1, ih q h1.2 h2.2]
            exact aux p q hpq hqp
          subst hpqe
          rw [t1] at u4
          obtain ⟨rfl, rfl⟩ := Prod.mk.inj (Option.some.inj u4)
          subst hq
          rw [csub_self p t1] at z1
          have v1' := v1
          have v2' := v2
          rw [csub_self p t1] at v1' v2'
          rcases hC with ⟨rfl, _⟩ | ⟨A, y1, y2, y3, y4⟩
          · rw [t1] at z1; exact (Prod.mk.inj (Option.some.inj z1)).1.symm
          · obtain ⟨g1, g2⟩ : At w' ad1' cs4 ∧ cs4.length = n.length := by
              obtain ⟨c, d, Bq, m1, m2, m3, m4, m5, m6, _⟩ := lens p v1' v2' (fun A0 hA0 hb => by
                rcases hb with hb | hb
                · exact hNB A0 hA0 hb.1
                · exact hBx _ hb ⟨(r3 A0 hA0).2, fun hb1 => hNB A0 hA0 (t4 _ hb1)⟩) w1 w2
              rw [z1] at m1
              obtain ⟨rfl, rfl⟩ := Prod.mk.inj (Option.some.inj m1)
              have es : s1 = s3 := congrArg Sigma.fst (Option.some.inj (e3.symm.trans u3))
              exact ⟨m2, by rw [m6.len, t6.len, es]⟩
            -- both are what lies at A, which the write left as it was
            apply List.ext_getElem?
            intro j
            by_cases hj : j < cs4.length
            · rw [← g1 A y1 j hj]
              have c0 := t2 A y1 j (by omega)
              rw [List.getElem?_eq_getElem (by omega)] at c0
              obtain ⟨_, cur, e, fr, hcu⟩ := cell_some c0
              rw [add_block] at hcu
              rw [cell_at y2 (y4.here _ _ _ hcu)]
              have hbd : A.off + n.length ≤ cur.size := by
                have c1 := t2 A y1 (n.length - 1) (by omega)
                rw [cell_at y2 hcu, List.getElem?_eq_getElem (by omega)] at c1
                have := (Array.getElem?_eq_some_iff.1 c1).1
                omega
              exact wrArr_in n cur A.off j hbd (by omega)
            · rw [List.getElem?_eq_none (by omega), List.getElem?_eq_none (by omega)]
        · exact z2 (by simpa using hpq) hsl
  refine ⟨by rw [h.size, List.length_set, List.length_map], h.defers, fun b hb => by rw [hsz]; exact h.zlt b hb, fun t b hb => ?_, fun t t' b hb hb' => ?_, fun b hb => ?_, fun t b hb hr => ?_, fun t ht => ?_⟩
  · simp only at hb
    rw [hsz]
    split at hb
    · rcases hb with hb | hb
      · exact h.flt g b hb.1
      · rcases hB2 b hb with hr | hr
        · exact h.rlt b hr
        · exact h.flt g b (r2 b (t4 b hr))
    · exact h.flt t b hb
  · have key : ∀ b, (L.F g b ∧ ¬ B1 b) ∨ B2 b → ∀ t, t ≠ g → ¬ L.F t b := by
      intro b hb t hne ht'
      rcases hb with hb | hb
      · exact hne (h.dj t g b ht' hb.1)
      · rcases hB2 b hb with hr | hr
        · exact h.rdj t b ht' hr
        · exact hne (h.dj t g b ht' (r2 b (t4 b hr)))
    simp only at hb hb'
    split at hb <;> split at hb'
    · rename_i q1 q2; rw [q1, q2]
    · rename_i q1 q2; exact absurd hb' (key b hb t' q2)
    · rename_i q1 q2; exact absurd hb (key b hb' t q1)
    · exact h.dj t t' b hb hb'
  · rw [hsz]
    rcases (hR' b hb).1 with hr | hr
    · exact h.rlt b hr
    · exact h.flt g b (r2 b (t4 b hr))
  · simp only at hb
    obtain ⟨q1, q2⟩ := hR' b hr
    split at hb
    · rcases hb with hb | hb
      · rcases q1 with q1 | q1
        · exact h.rdj g b hb.1 q1
        · exact hb.2 q1
      · exact q2 hb
    · rename_i hne
      rcases q1 with q1 | q1
      · exact h.rdj t b hb q1
      · exact hne (h.dj t g b hb (r2 b (t4 b q1)))
  · rw [List.length_set, List.length_map] at ht
    rw [hat]
    by_cases htg : t = g
    · rw [if_pos htg]
      subst htg
      refine ⟨?_, fun b => (B b ∧ ¬ B1 b) ∨ B2 b, fun b hb => ?_, fun A hA => ⟨fun hb => ?_, ?_⟩, ?_⟩
      · -- the root's own cells
        simp only [if_true]
        cases k with
        | val agg =>
          obtain ⟨m1, m2, m3⟩ := r1
          rw [m3] at t1
          have : csub s (L.C t) p n = L.C t := by
            cases ad1' with
            | none =>
              rcases hC with ⟨_, rfl⟩ | ⟨A, y1, _⟩
              · exact csub_self p t1
              · cases y1
            | some A => exact csub_none p t1
          exact ⟨by rw [this]; exact m1, m2, m3⟩
        | tup aggs =>
          obtain ⟨m1, m2, m3⟩ := r1
          rw [m3] at t1
          have : csub s (L.C t) p n = L.C t := by
            cases ad1' with
            | none =>
              rcases hC with ⟨_, rfl⟩ | ⟨A, y1, _⟩
              · exact csub_self p t1
              · cases y1
            | some A => exact csub_none p t1
          exact ⟨by rw [this]; exact m1, m2, m3⟩
        | box bt =>
          obtain ⟨b, m1, m2, m3⟩ := r1
          refine ⟨b, m1, ?_, m3⟩
          have hln := csub_len p t1 hn
          obtain ⟨cur', c1, c2⟩ : ∃ cur', w'.heap[b]? = some (.cells cur' bt (0, 0)) ∧ cur'.size = (L.C t).length := by
            rcases hC with ⟨rfl, _⟩ | ⟨A, y1, y2, y3, y4⟩
            · exact ⟨_, m2, by simp⟩
            · by_cases hbk : A.block = b
              · exact ⟨_, hbk ▸ y4.here _ _ _ (hbk ▸ m2), by rw [wrArr_size]; simp⟩
              · exact ⟨_, (y4.other b (fun h => hbk h.symm)).trans m2, by simp⟩
          rw [c1]
          congr 2
          apply Array.ext_getElem?
          intro j
          by_cases hj : j < (L.C t).length
          · have := v2 _ m3 j (by omega)
            rw [cell_row c1] at this
            rw [this]; simp
          · rw [Array.getElem?_eq_none (by omega), Array.getElem?_eq_none (by simp; omega)]
        | ibox bt b =>
          obtain ⟨m1, m2, m3⟩ := r1
          refine ⟨m1, ?_, m3⟩
          have hln := csub_len p t1 hn
          obtain ⟨cur', c1, c2⟩ : ∃ cur', w'.heap[b]? = some (.cells cur' bt (0, 0)) ∧ cur'.size = (L.C t).length := by
            rcases hC with ⟨rfl, _⟩ | ⟨A, y1, y2, y3, y4⟩
            · exact ⟨_, m2, by simp⟩
            · by_cases hbk : A.block = b
              · exact ⟨_, hbk ▸ y4.here _ _ _ (hbk ▸ m2), by rw [wrArr_size]; simp⟩
              · exact ⟨_, (y4.other b (fun h => hbk h.symm)).trans m2, by simp⟩
          rw [c1]
          congr 2
          apply Array.ext_getElem?
          intro j
          by_cases hj : j < (L.C t).length
          · have := v2 _ m3 j (by omega)
            rw [cell_row c1] at this
            rw [this]; simp
          · rw [Array.getElem?_eq_none (by omega), Array.getElem?_eq_none (by simp; omega)]
      · simp only [if_true]
        rcases hb with hb | hb
        · exact .inl ⟨r2 b hb.1, hb.2⟩
        · exact .inr hb
      · rcases hb with hb | hb
        · exact hNB A hA hb.1
        · exact hBx _ hb ⟨(r3 A hA).2, fun hb1 => hNB A hA (t4 _ hb1)⟩
      · simp only [if_true]
        exact .inl ⟨(r3 A hA).2, fun hb1 => hNB A hA (t4 _ hb1)⟩
      · simp only [if_true]; exact v1
    · rw [if_neg htg]
      have h1 := h.tmp t ht
      rcases PV.root_or (st.at t) with ⟨k', s', f'', x'', hp'⟩ | hp'
      · rw [hp', hkr]
        rw [hp'] at h1
        have h2 : RRep L w' t k' s' f'' x'' (a.tmps.getD t undef) := RRep.ext (fun b hb => hoth b (fun hf => by
          rcases hb with hb | hb
          · exact (h.flt g b hf).2 hb
          · exact htg (h.dj t g b hb hf))) h1
        obtain ⟨q1, B', q2, q3, q4⟩ := h2
        refine ⟨?_, B', fun b hb => ?_, fun A hA => ⟨(q3 A hA).1, ?_⟩, ?_⟩
        · simp only [if_neg htg]; exact q1
        · simp only [if_neg htg]; exact q2 b hb
        · simp only [if_neg htg]; exact (q3 A hA).2
        · simp only [if_neg htg]; exact q4
      · rw [PVRep.of hp'] at h1
        have hsame : kill g p (st.at t) = .dead ∨ kill g p (st.at t) = st.at t := by
          rcases hk with rfl | ⟨rfl, _⟩
          · exact hit_or _ _ _
          · exact hitS_or _ _ _
        have hkn : (kill g p (st.at t)).isRoot = false := by
          rcases hsame with he | he
          · rw [he]; rfl
          · rw [he]; exact hp'
        rw [PVRep.of hkn]
        rcases hsame with he | he
        · rw [he]; trivial
        · rw [he]
          refine ORep.places (L := L) (st := st) (L' := ⟨L.Z, fun t b => if t = g then (L.F g b ∧ ¬ B1 b) ∨ B2 b else L.F t b, fun t => if t = g then csub s (L.C g) p n else L.C t, L.D⟩) (fun _ h => h) hzo (fun agg g' q e s3 cs3 ad3 q1 q2 q3 => ?_) (fun g' q e s3 cs3 A q1 => ?_) h1
          · by_cases hgg : g' = g
            · subst hgg
              rw [e] at he
              rcases hk with rfl | ⟨rfl, hnc⟩
              · simp only [hit, beq_self_eq_true, Bool.true_and] at he
                by_cases hc : (agg || Path.pre p q) = true
                · rw [if_pos hc] at he; cases he
                · simp only [Bool.or_eq_true, not_or, Bool.not_eq_true] at hc
                  obtain ⟨cs4, z1, z2⟩ := hpg (by simp [below, hc.2]) q1
                  refine ⟨s3, cs4, ad3, z1, ?_, q3⟩
                  rw [z2 (.inl hc.2) (q3 hc.1)]; exact q2
              · simp only [hitS, beq_self_eq_true, Bool.true_and] at he
                by_cases hc : (agg || below p q) = true
                · rw [if_pos hc] at he; cases he
                · simp only [Bool.or_eq_true, not_or, Bool.not_eq_true] at hc
                  obtain ⟨cs4, z1, z2⟩ := hpg hc.2 q1
                  refine ⟨s3, cs4, ad3, z1, ?_, q3⟩
                  rw [z2 (.inr hnc) (q3 hc.1)]; exact q2
            · exact ⟨s3, cs3, ad3, hpo hgg q1, q2, q3⟩
          · by_cases hgg : g' = g
            · subst hgg
              have hbl : below p q = false := by
                rcases e with e | ⟨f', caps, e, hm⟩
                · rw [e] at he
                  rcases hk with rfl | ⟨rfl, _⟩ <;> (simp only [hit, hitS, beq_self_eq_true, Bool.true_and] at he; by_cases hc : below p q = true; rw [if_pos hc] at he; cases he; simpa using hc)
                · rw [e] at he
                  rcases hk with rfl | ⟨rfl, _⟩ <;> (simp only [hit, hitS] at he; by_cases hc : (caps.any (capBelow g' p)) = true; rw [if_pos hc] at he; cases he; (simp only [List.any_eq_true, not_exists, not_and, Bool.not_eq_true] at hc; have := hc _ hm; simpa [capBelow] using this))
              obtain ⟨cs4, z1, _⟩ := hpg hbl q1
              exact ⟨cs4, z1⟩
            · exact ⟨cs3, hpo hgg q1⟩
end
end Go.Proofs.Yteeklekfafedcaa.V

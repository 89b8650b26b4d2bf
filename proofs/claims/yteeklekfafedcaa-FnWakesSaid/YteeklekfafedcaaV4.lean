/- The state of the reading against the temporaries and the memory of a call. No condition. -/
import Derived.Test.YteeklekfafedcaaV3
set_option linter.unusedVariables false
namespace Go.Proofs.Yteeklekfafedcaa.V
open Go Go.RowKit

def mkV (agg : Bool) (cs : List Value) (v : Value) : Prop := if agg = true then v = .agg cs.toArray else cs = [v]
def aggV (g : Bool) (cs : List Value) : Value := if g = true then .agg cs.toArray else cs.headD undef
def tupV : List Bool → Sh → List Value → List Value
  | [], _, _ => []
  | [g], _, cs => [aggV g cs]
  | g :: h :: r, .pr a b, cs => aggV g (cs.take a.size) :: tupV (h :: r) b (cs.drop a.size)
  | _ :: _ :: _, _, _ => []
def tupOk : List Bool → Sh → Bool
  | [], _ => true
  | [g], s => g || s.isSl || s.plain && s.size == 1
  | g :: h :: r, .pr a b => (g || a.isSl || a.plain && a.size == 1) && tupOk (h :: r) b
  | _ :: _ :: _, _ => false

/-- the cells of what a temporary holds, and where they lie -/
def RootAt (w : World) (k : RK) (s : Sh) (v : Value) (cs : List Value) (ad : Option Addr) : Prop :=
  match k with
  | .val agg => mkV agg cs v ∧ (agg = false → s.isSl = true) ∧ ad = none
  | .box t => ∃ b, v = .pointer (some ⟨b, 0, none⟩) ∧ w.heap[b]? = some (.cells cs.toArray t (0, 0)) ∧ ad = some ⟨b, 0, none⟩
  | .ibox t b => v = .pointer (some ⟨b, 0, none⟩) ∧ w.heap[b]? = some (.cells cs.toArray t (0, 0)) ∧ ad = some ⟨b, 0, none⟩
  | .tup aggs => v = .tuple (tupV aggs s cs).toArray ∧ tupOk aggs s = true ∧ ad = none

/-- how the state lies in memory: the frozen zone, each root's own blocks, its cells and where they lie -/
structure Lay where
  Z : Nat → Prop
  F : Nat → Nat → Prop
  C : Nat → List Value
  D : Nat → Option Addr

def Place (L : Lay) (st : St) (w : World) (g : Nat) (p : Path) (s1 : Sh) (cs1 : List Value) (ad1 : Option Addr) : Prop :=
  ∃ k s f x, st.at g = .root k s f x ∧ Ok s f x p ∧ (∃ f1 x1, get s f x p = some ⟨s1, f1, x1⟩) ∧ sub w s (L.C g) (L.D g) p = some (cs1, ad1)

def FaRep (w : World) (Z : Nat → Prop) (s : Sh) (x : s.ty) (v : Value) : Prop :=
  ∃ ad cs, v = .pointer (some ad) ∧ cs.length = s.size ∧ Z ad.block ∧ (∀ j, j < s.size → w.cell? (ad.add j) = cs[j]?) ∧ Rep w Z s .fz x cs (fun _ => False)

def CapRep (L : Lay) (st : St) (w : World) : Cap → Value → Prop
  | .adr g p, v => ∃ s1 cs1 A, Place L st w g p s1 cs1 (some A) ∧ v = .pointer (some A)
  | .fadr s x, v => FaRep w L.Z s x v

/-- a value that is no root -/
def ORep (L : Lay) (st : St) (w : World) : PV → Value → Prop
  | .dead, _ => True
  | .v agg s x, v => ∃ cs, mkV agg cs v ∧ Rep w L.Z s .fz x cs (fun _ => False)
  | .emp, v => ∃ A, v = .slice A 0 0
  | .h agg g p, v => ∃ s1 cs1 ad1, Place L st w g p s1 cs1 ad1 ∧ mkV agg cs1 v ∧ (agg = false → s1.isSl = true)
  | .adr g p, v => ∃ s1 cs1 A, Place L st w g p s1 cs1 (some A) ∧ v = .pointer (some A)
  | .fadr s x, v => FaRep w L.Z s x v
  | .fn f caps, v => ∃ vs : List Value, v = .func (.func f) #[] vs.toArray ∧ vs.length = caps.length ∧ ∀ (i : Nat) (c : Cap) (u : Value), caps[i]? = some c → vs[i]? = some u → CapRep L st w c u
  | .root .., _ => False

def RRep (L : Lay) (w : World) (t : Nat) (k : RK) (s : Sh) (f : Fl) (x : s.ty) (v : Value) : Prop :=
  RootAt w k s v (L.C t) (L.D t) ∧ ∃ B : Nat → Prop, (∀ b, B b → L.F t b) ∧ (∀ A, L.D t = some A → ¬ B A.block ∧ L.F t A.block) ∧ Rep w L.Z s f x (L.C t) B

def PVRep (L : Lay) (st : St) (w : World) (t : Nat) : PV → Value → Prop
  | .root k s f x, v => RRep L w t k s f x v
  | pv, v => ORep L st w pv v

structure Rel (L : Lay) (st : St) (a : Act) (w : World) (R : Nat → Prop) : Prop where
  size : a.tmps.size = st.length
  defers : a.defers = []
  zlt : ∀ b, L.Z b → b < w.heap.size
  flt : ∀ t b, L.F t b → b < w.heap.size ∧ ¬ L.Z b
  dj : ∀ t t' b, L.F t b → L.F t' b → t = t'
  rlt : ∀ b, R b → b < w.heap.size ∧ ¬ L.Z b
  rdj : ∀ t b, L.F t b → ¬ R b
  tmp : ∀ t, t < st.length → PVRep L st w t (st.at t) (a.tmps.getD t undef)

theorem RootAt.at_ {w : World} {k : RK} {s : Sh} {v : Value} {cs : List Value} {ad : Option Addr} (h : RootAt w k s v cs ad) : At w ad cs := by
  intro A hA j hj
  cases k with
  | val agg => rw [h.2.2] at hA; cases hA
  | box t =>
    obtain ⟨b, _, h2, h3⟩ := h
    rw [h3] at hA
    obtain rfl := Option.some.inj hA
    rw [cell_row h2]
    simp
  | ibox t b =>
    obtain ⟨_, h2, h3⟩ := h
    rw [h3] at hA
    obtain rfl := Option.some.inj hA
    rw [cell_row h2]
    simp
  | tup aggs => rw [h.2.2] at hA; cases hA

/-- the world has grown: blocks that stood are as they were -/
structure Ext (w w' : World) : Prop where
  os : w'.os = w.os
  tape : w'.tape = w.tape
  output : w'.output = w.output
  size : w.heap.size ≤ w'.heap.size
  block : ∀ b, b < w.heap.size → w'.heap[b]? = w.heap[b]?
theorem Ext.refl (w : World) : Ext w w := ⟨rfl, rfl, rfl, Nat.le_refl _, fun _ _ => rfl⟩
theorem Ext.trans {a b c : World} (h : Ext a b) (k : Ext b c) : Ext a c := ⟨k.os.trans h.os, k.tape.trans h.tape, k.output.trans h.output, Nat.le_trans h.size k.size, fun i hi => (k.block i (Nat.lt_of_lt_of_le hi h.size)).trans (h.block i hi)⟩
theorem Ext.alloc (w : World) (o : Obj) : Ext w (w.alloc o) := ⟨rfl, rfl, rfl, by simp, fun b hb => heap_alloc_old w o b hb⟩
theorem Ext.drew (w : World) : Ext w w.drew := ⟨rfl, rfl, rfl, Nat.le_refl _, fun _ _ => rfl⟩

section
variable {L : Lay} {st : St} {a : Act} {w : World} {R : Nat → Prop}

theorem St.at_ge {t : Nat} (h : st.length ≤ t) : st.at t = .dead := by
  unfold St.at
  rw [List.getD_eq_getElem?_getD, List.getElem?_eq_none h]; rfl
theorem root_lt {g : Nat} {k : RK} {s : Sh} {f : Fl} {x : s.ty} (h : st.at g = .root k s f x) : g < st.length := by
  rcases Nat.lt_or_ge g st.length with h1 | h1
  · exact h1
  · rw [St.at_ge h1] at h; cases h
theorem St.at_set {t d : Nat} {pv : PV} : St.at (st.set d pv) t = if t = d ∧ d < st.length then pv else st.at t := by
  unfold St.at
  rw [List.getD_eq_getElem?_getD, List.getD_eq_getElem?_getD, List.getElem?_set]
  by_cases h : d = t
  · subst h
    by_cases hl : d < st.length
    · simp [hl]
    · simp [hl]
  · have h' : ¬ t = d := fun e => h e.symm
    simp [h, h']
theorem St.at_map {t : Nat} {h : PV → PV} (hd : h .dead = .dead) : St.at (st.map h) t = h (st.at t) := by
  unfold St.at
  rw [List.getD_eq_getElem?_getD, List.getD_eq_getElem?_getD, List.getElem?_map]
  cases st[t]? <;> simp [hd]

theorem Rel.root (h : Rel L st a w R) {g : Nat} {k : RK} {s : Sh} {f : Fl} {x : s.ty} (hg : st.at g = .root k s f x) : RRep L w g k s f x (a.tmps.getD g undef) := by
  have := h.tmp g (root_lt hg)
  rw [hg] at this
  exact this
theorem PV.root_or (pv : PV) : (∃ k s f x, pv = .root k s f x) ∨ pv.isRoot = false := by
  cases pv with
  | root k s f x => exact .inl ⟨k, s, f, x, rfl⟩
  | _ => exact .inr rfl
theorem PVRep.of {t : Nat} {pv : PV} {v : Value} (h : pv.isRoot = false) : PVRep L st w t pv v = ORep L st w pv v := by
  cases pv <;> first | rfl | cases h
theorem Rel.orep (h : Rel L st a w R) {t : Nat} (hn : (st.at t).isRoot = false) : ORep L st w (st.at t) (a.tmps.getD t undef) := by
  rcases Nat.lt_or_ge t st.length with h1 | h1
  · have := h.tmp t h1
    rwa [PVRep.of hn] at this
  · rw [St.at_ge h1]; trivial

/-- a place's content -/
theorem Rel.place (h : Rel L st a w R) {g : Nat} {p : Path} {s1 : Sh} {cs1 : List Value} {ad1 : Option Addr} (hp : Place L st w g p s1 cs1 ad1) {f1 : Fl} {x1 : s1.ty} (hl : look st g p = some ⟨s1, f1, x1⟩) :
    At w ad1 cs1 ∧ (∀ A, ad1 = some A → L.F g A.block) ∧ ∃ B1 : Nat → Prop, (∀ b, B1 b → L.F g b) ∧ Rep w L.Z s1 f1 x1 cs1 B1 := by
  obtain ⟨k, s, f, x, e1, e2, _, e4⟩ := hp
  unfold look at hl
  rw [e1] at hl
  obtain ⟨r1, B, r2, r3, r4⟩ := h.root e1
  obtain ⟨cs1', ad1', B1, t1, t2, t3, t4, t5, t6, _⟩ := lens p r4 r1.at_ (fun A hA => (r3 A hA).1) e2 hl
  rw [t1] at e4
  obtain ⟨rfl, rfl⟩ := Prod.mk.inj (Option.some.inj e4)
  refine ⟨t2, fun A hA => ?_, B1, fun b hb => r2 b (t4 b hb), t6⟩
  rcases t3.block A hA with ⟨A0, u1, u2⟩ | u
  · rw [← u2]; exact (r3 A0 u1).2
  · exact r2 _ u

theorem Place.ext {w' : World} (h : Rel L st a w R) (hx : ∀ b, L.Z b ∨ (∃ t, L.F t b) → w'.heap[b]? = w.heap[b]?) {g : Nat} {p : Path} {s1 : Sh} {cs1 : List Value} {ad1 : Option Addr} (hp : Place L st w g p s1 cs1 ad1) : Place L st w' g p s1 cs1 ad1 := by
  obtain ⟨k, s, f, x, e1, e2, e3, e4⟩ := hp
  obtain ⟨r1, B, r2, r3, r4⟩ := h.root e1
  exact ⟨k, s, f, x, e1, e2, e3, by rw [sub_frame p r4 e2 (fun b hb => hx b (.inr ⟨g, r2 b hb⟩))]; exact e4⟩
theorem FaRep.ext {w' : World} {Z Z' : Nat → Prop} (hz : ∀ b, Z b → Z' b) (hx : ∀ b, Z b → w'.heap[b]? = w.heap[b]?) {s : Sh} {x : s.ty} {v : Value} (h : FaRep w Z s x v) : FaRep w' Z' s x v := by
  obtain ⟨ad, cs, h1, h2, h3, h4, h5⟩ := h
  refine ⟨ad, cs, h1, h2, hz _ h3, fun j hj => ?_, h5.frame hz (fun b hb => hx b (hb.resolve_right id))⟩
  rw [← h4 j hj]
  exact World.cell?_of_block (by rw [add_block]; exact hx _ h3)

theorem ORep.ext {w' : World} (h : Rel L st a w R) (hx : ∀ b, L.Z b ∨ (∃ t, L.F t b) → w'.heap[b]? = w.heap[b]?) : ∀ {pv : PV} {v : Value}, ORep L st w pv v → ORep L st w' pv v
  | .dead, _, _ => trivial
  | .v agg s x, v, ⟨cs, h1, h2⟩ => ⟨cs, h1, h2.frame (fun _ h => h) (fun b hb => hx b (.inl (hb.resolve_right id)))⟩
  | .emp, v, h1 => h1
  | .h agg g p, v, ⟨s1, cs1, ad1, h1, h2, h3⟩ => ⟨s1, cs1, ad1, h1.ext h hx, h2, h3⟩
  | .adr g p, v, ⟨s1, cs1, A, h1, h2⟩ => ⟨s1, cs1, A, h1.ext h hx, h2⟩
  | .fadr s x, v, h1 => FaRep.ext (Z := L.Z) (fun _ h => h) (fun b hb => hx b (.inl hb)) h1
  | .fn f caps, v, ⟨vs, h1, h2, h3⟩ => ⟨vs, h1, h2, fun i c u hc hu => by
      have := h3 i c u hc hu
      cases c with
      | adr g p => obtain ⟨s1, cs1, A, q1, q2⟩ := this; exact ⟨s1, cs1, A, q1.ext h hx, q2⟩
      | fadr s x => exact FaRep.ext (fun _ h => h) (fun b hb => hx b (.inl hb)) this⟩
  | .root .., _, h1 => h1
theorem RRep.ext {w' : World} {t : Nat} (hx : ∀ b, L.Z b ∨ L.F t b → w'.heap[b]? = w.heap[b]?) {k : RK} {s : Sh} {f : Fl} {x : s.ty} {v : Value} (h1 : RRep L w t k s f x v) : RRep L w' t k s f x v := by
  obtain ⟨r1, B, r2, r3, r4⟩ := h1
  refine ⟨?_, B, r2, r3, r4.frame (fun _ h => h) (fun b hb => hx b (hb.imp id (r2 b)))⟩
  cases k with
  | val agg => exact r1
  | tup aggs => exact r1
  | box t =>
    obtain ⟨b, e1, e2, e3⟩ := r1
    exact ⟨b, e1, (hx b (.inr (r3 _ e3).2)).trans e2, e3⟩
  | ibox t b =>
    obtain ⟨e1, e2, e3⟩ := r1
    exact ⟨e1, (hx b (.inr (r3 _ e3).2)).trans e2, e3⟩

/-- nothing that is told has turned -/
theorem Rel.ext {w' : World} (h : Rel L st a w R) (hsz : w.heap.size ≤ w'.heap.size) (hx : ∀ b, L.Z b ∨ (∃ t, L.F t b) → w'.heap[b]? = w.heap[b]?) : Rel L st a w' R where
  size := h.size
  defers := h.defers
  zlt := fun b hb => Nat.lt_of_lt_of_le (h.zlt b hb) hsz
  flt := fun t b hb => ⟨Nat.lt_of_lt_of_le (h.flt t b hb).1 hsz, (h.flt t b hb).2⟩
  dj := h.dj
  rlt := fun b hb => ⟨Nat.lt_of_lt_of_le (h.rlt b hb).1 hsz, (h.rlt b hb).2⟩
  rdj := h.rdj
  tmp := fun t ht => by
    have h1 := h.tmp t ht
    rcases PV.root_or (st.at t) with ⟨k, s, f, x, hp⟩ | hp
    · rw [hp] at h1 ⊢
      exact RRep.ext (fun b hb => hx b (hb.imp id fun q => ⟨t, q⟩)) h1
    · rw [PVRep.of hp] at h1 ⊢
      exact ORep.ext h hx h1
theorem Rel.grow {w' : World} (h : Rel L st a w R) (hx : Ext w w') : Rel L st a w' R :=
  h.ext hx.size (fun b hb => hx.block b (by rcases hb with hb | ⟨t, hb⟩; exact h.zlt b hb; exact (h.flt t b hb).1))

/-- an operand, its roots named -/
theorem Rel.opnd (h : Rel L st a w R) (x : Operand) : ORep L st w (ref st x) (a.eval x) := by
  cases x with
  | tmp t =>
    show ORep L st w (ref st (.tmp t)) (a.tmps.getD t undef)
    cases hp : st.at t with
    | root k s f x =>
      have e1 : get s f x [] = some ⟨s, f, x⟩ := by cases s <;> rfl
      obtain ⟨r1, B, r2, r3, r4⟩ := h.root hp
      have hP : Place L st w t [] s (L.C t) (L.D t) := ⟨k, s, f, x, hp, by cases s <;> trivial, ⟨f, x, e1⟩, sub_nil _ _ _ _⟩
      cases k with
      | val agg =>
        have : ref st (.tmp t) = .h agg t [] := by simp only [ref, hp]
        rw [this]
        exact ⟨s, _, _, hP, r1.1, r1.2.1⟩
      | box b =>
        have : ref st (.tmp t) = .adr t [] := by simp only [ref, hp]
        rw [this]
        obtain ⟨b, e1, e2, e3⟩ := r1
        exact ⟨s, _, _, e3 ▸ hP, e1⟩
      | ibox t0 b =>
        have : ref st (.tmp t) = .adr t [] := by simp only [ref, hp]
        rw [this]
        obtain ⟨e1, e2, e3⟩ := r1
        exact ⟨s, _, _, e3 ▸ hP, e1⟩
      | tup g =>
        have : ref st (.tmp t) = .dead := by simp only [ref, hp]
        rw [this]; trivial
    | dead => have : ref st (.tmp t) = .dead := by simp only [ref, hp]
              rw [this]; trivial
    | v => have e : ref st (.tmp t) = st.at t := by simp only [ref, hp]
           rw [e]; exact h.orep (by rw [hp]; rfl)
    | emp => have e : ref st (.tmp t) = st.at t := by simp only [ref, hp]
             rw [e]; exact h.orep (by rw [hp]; rfl)
    | h => have e : ref st (.tmp t) = st.at t := by simp only [ref, hp]
           rw [e]; exact h.orep (by rw [hp]; rfl)
    | adr => have e : ref st (.tmp t) = st.at t := by simp only [ref, hp]
             rw [e]; exact h.orep (by rw [hp]; rfl)
    | fadr => have e : ref st (.tmp t) = st.at t := by simp only [ref, hp]
              rw [e]; exact h.orep (by rw [hp]; rfl)
    | fn => have e : ref st (.tmp t) = st.at t := by simp only [ref, hp]
            rw [e]; exact h.orep (by rw [hp]; rfl)
  | const c =>
    show ORep L st w (cvalue c) c
    unfold cvalue
    split
    · exact ⟨[_], rfl, rfl⟩
    · exact ⟨[_], rfl, rfl⟩
    · exact ⟨[_], rfl, rfl⟩
    · exact ⟨none, rfl⟩
    · trivial
  | func f => exact ⟨[], rfl, rfl, fun i c u hc _ => by simp at hc⟩
  | global g => trivial
end
end Go.Proofs.Yteeklekfafedcaa.V

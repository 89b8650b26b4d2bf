/- What is moved, what a new owner takes; loads and stores as the machine does them; the table of types. No condition. -/
import Derived.Test.YteeklekfafedcaaV5
import Derived.Laws.Cells
import Derived.Laws.CopyRow
import Derived.Laws.Entries
import Derived.Maps.AppendAt
set_option linter.unusedVariables false
namespace Go.Proofs.Yteeklekfafedcaa.V
open Go Go.RowKit

theorem get_nil (s : Sh) (f : Fl) (x : s.ty) : get s f x [] = some ⟨s, f, x⟩ := by cases s <;> rfl

section
variable {L : Lay} {st : St} {a : Act} {w : World} {R : Nat → Prop}

/-- what a step may turn -/
structure Sub (L' L : Lay) : Prop where
  Z : L'.Z = L.Z
  F : ∀ t b, L'.F t b → ∃ t', L.F t' b
theorem Sub.refl (L : Lay) : Sub L L := ⟨rfl, fun t b h => ⟨t, h⟩⟩
theorem Sub.trans {A B C : Lay} (h : Sub A B) (k : Sub B C) : Sub A C := ⟨h.Z.trans k.Z, fun t b hb => by obtain ⟨t', h'⟩ := h.F t b hb; exact k.F t' b h'⟩

theorem Rel.take (h : Rel L st a w R) {g : Nat} {p : Path} {s : Sh} {f : Fl} {x : s.ty} {st' : St} (ht : take st g p = some (⟨s, f, x⟩, st')) {s1 : Sh} {cs1 : List Value} {ad1 : Option Addr} (hp : Place L st w g p s1 cs1 ad1) :
    ∃ L' B1, Sub L' L ∧ Rel L' st' a w (fun b => R b ∨ B1 b) ∧ (∀ b, B1 b → ¬ R b ∧ ∃ t, L.F t b) ∧ Rep w L.Z s f x cs1 B1 ∧ st'.length = st.length := by
  obtain ⟨k, s0, f0, x0, hg⟩ : ∃ k s0 f0 x0, st.at g = .root k s0 f0 x0 := by obtain ⟨k, s0, f0, x0, e, _⟩ := hp; exact ⟨k, s0, f0, x0, e⟩
  -- a part is marked junk
  have part : ∀ (s2 : Sh) (f2 : Fl) (x2 : s2.ty) (st2 : St), get s0 f0 x0 p = some ⟨s2, f2, x2⟩ → V.put st g p s2 .junk x2 hit = some st2 → ∃ L' B1, Sub L' L ∧ Rel L' st2 a w (fun b => R b ∨ B1 b) ∧ (∀ b, B1 b → ¬ R b ∧ ∃ t, L.F t b) ∧ Rep w L.Z s2 f2 x2 cs1 B1 ∧ st2.length = st.length := by
    intro s2 f2 x2 st2 h1 h2
    obtain ⟨f1, x1, e1, B1, e2, e3, e4, e5, e6⟩ := h.put hg hp
    rw [h1] at e1
    have hss : s2 = s1 := congrArg Sigma.fst (Option.some.inj e1)
    subst hss
    have := Option.some.inj e1
    simp only [Sigma.mk.injEq, heq_eq_eq, true_and] at this
    obtain ⟨rfl, rfl⟩ := Prod.mk.inj this
    unfold V.put at h2
    rw [hg] at h2
    simp only at h2
    split at h2
    · rename_i f3 x3 hu
      obtain rfl := Option.some.inj h2
      refine ⟨⟨L.Z, fun t b => if t = g then (L.F g b ∧ ¬ B1 b) ∨ False else L.F t b, fun t => if t = g then csub s0 (L.C g) p cs1 else L.C t, L.D⟩, B1, ⟨rfl, fun t b hb => ?_⟩, e6 w cs1 .junk x2 (fun _ => False) (fun b => R b ∨ B1 b) f3 x3 hit (.inl ⟨rfl, rfl⟩) rfl e3.tojunk (fun _ h => h.elim) (fun b hb => ⟨hb, id⟩) hu (.inl rfl), fun b hb => ⟨h.rdj g b (e2 b hb), g, e2 b hb⟩, e3, by rw [List.length_set, List.length_map]⟩
      simp only at hb
      split at hb
      · rcases hb with hb | hb
        · exact ⟨g, hb.1⟩
        · exact hb.elim
      · exact ⟨t, hb⟩
    · cases h2
  unfold V.take at ht
  rw [hg] at ht
  have aux : (match get s0 f0 x0 p with
      | some ⟨s1, f1, x1⟩ => match V.put st g p s1 .junk x1 hit with
        | some st' => some ((⟨s1, f1, x1⟩ : (s : Sh) × Fl × s.ty), st')
        | none => none
      | none => none) = some (⟨s, f, x⟩, st') → ∃ L' B1, Sub L' L ∧ Rel L' st' a w (fun b => R b ∨ B1 b) ∧ (∀ b, B1 b → ¬ R b ∧ ∃ t, L.F t b) ∧ Rep w L.Z s f x cs1 B1 ∧ st'.length = st.length := by
    intro ht
    split at ht
    · rename_i s2 f2 x2 h1
      split at ht
      · rename_i st2 h2
        have := Option.some.inj ht
        obtain ⟨e1, rfl⟩ := Prod.mk.inj this
        simp only [Sigma.mk.injEq] at e1
        obtain ⟨rfl, e1⟩ := e1
        obtain ⟨rfl, rfl⟩ := Prod.mk.inj (eq_of_heq e1)
        exact part _ _ _ _ h1 h2
      · cases ht
    · cases ht
  cases k with
  | val agg =>
    simp only at ht
    cases p with
    | nil =>
      simp only at ht
      have := Option.some.inj ht
      obtain ⟨e1, rfl⟩ := Prod.mk.inj this
      simp only [Sigma.mk.injEq] at e1
      obtain ⟨rfl, e1⟩ := e1
      obtain ⟨rfl, rfl⟩ := Prod.mk.inj (eq_of_heq e1)
      obtain ⟨B, g1, g2, g3⟩ := h.gone hg
      obtain ⟨k', s', f', x', u1, u2, u3, u4⟩ := hp
      rw [hg] at u1
      injection u1 with i1 i2 i3 i4
      subst i2
      rw [sub_nil] at u4
      obtain ⟨rfl, rfl⟩ := Prod.mk.inj (Option.some.inj u4)
      refine ⟨⟨L.Z, fun t b => if t = g then False else L.F t b, L.C, L.D⟩, L.F g, ⟨rfl, fun t b hb => ?_⟩, g1, fun b hb => ⟨h.rdj g b hb, g, hb⟩, g3.mono g2, by rw [List.length_set, List.length_map]⟩
      simp only at hb
      split at hb
      · exact hb.elim
      · exact ⟨t, hb⟩
    | cons a p => exact aux ht
  | box t => exact aux ht
  | ibox t b => exact aux ht
  | tup t => exact aux ht

theorem castTo_some {s' s : Sh} {x : s'.ty} {y : s.ty} (h : castTo s' s x = some y) : ∃ e : s' = s, e ▸ x = y := by
  unfold castTo at h
  split at h
  · rename_i e; exact ⟨e, Option.some.inj h⟩
  · cases h

theorem Rel.grab (h : Rel L st a w R) {agg : Bool} {s : Sh} {pv : PV} {v : Value} {f : Fl} {x : s.ty} {st' : St} (hv : ORep L st w pv v) (hg : grab st agg s pv = some (f, x, st')) :
    ∃ L' B1 cs, Sub L' L ∧ Rel L' st' a w (fun b => R b ∨ B1 b) ∧ (∀ b, B1 b → ¬ R b ∧ ∃ t, L.F t b) ∧ mkV agg cs v ∧ Rep w L.Z s f x cs B1 ∧ st'.length = st.length ∧ (pv.isH = false → st' = st) := by
  have hR0 : Rel L st a w (fun b => R b ∨ False) := ⟨h.size, h.defers, h.zlt, h.flt, h.dj, fun b hb => h.rlt b (hb.resolve_right id), fun t b hb hr => h.rdj t b hb (hr.resolve_right id), h.tmp⟩
  cases pv with
  | v agg' s' y =>
    simp only [V.grab] at hg
    split at hg
    · rename_i he
      subst he
      split at hg
      · rename_i y' hc
        obtain ⟨rfl, hy⟩ := castTo_some hc
        simp only at hy
        subst hy
        obtain ⟨rfl, e2⟩ := Prod.mk.inj (Option.some.inj hg)
        obtain ⟨rfl, rfl⟩ := Prod.mk.inj e2
        obtain ⟨cs, h1, h2⟩ := hv
        exact ⟨L, fun _ => False, cs, Sub.refl L, hR0, fun _ h => h.elim, h1, h2, rfl, fun _ => rfl⟩
      · cases hg
    · cases hg
  | emp =>
    simp only [V.grab] at hg
    split at hg
    · rename_i he
      obtain ⟨rfl, e2⟩ := Prod.mk.inj (Option.some.inj hg)
      obtain ⟨rfl, rfl⟩ := Prod.mk.inj e2
      obtain ⟨A, rfl⟩ := hv
      obtain ⟨rfl, hs⟩ := he
      cases s with
      | sl e s0 => exact ⟨L, fun _ => False, [.slice A 0 0], Sub.refl L, hR0, fun _ h => h.elim, rfl, .inl ⟨A, rfl, rfl⟩, rfl, fun _ => rfl⟩
      | unit => cases hs
      | int _ => cases hs
      | bool => cases hs
      | str => cases hs
      | pr _ _ => cases hs
    · cases hg
  | h agg' g p =>
    simp only [V.grab] at hg
    split at hg
    · rename_i he
      subst he
      split at hg
      · rename_i s' f' x' st2 ht
        split at hg
        · rename_i y hc
          obtain ⟨rfl, hy⟩ := castTo_some hc
          simp only at hy
          subst hy
          obtain ⟨rfl, e2⟩ := Prod.mk.inj (Option.some.inj hg)
          obtain ⟨rfl, rfl⟩ := Prod.mk.inj e2
          obtain ⟨s1, cs1, ad1, h1, h2, h3⟩ := hv
          obtain ⟨L', B1, g1, g2, g3, g4, g5⟩ := h.take ht h1
          exact ⟨L', B1, cs1, g1, g2, g3, h2, g4, g5, fun e => by cases e⟩
        · cases hg
      · cases hg
    · cases hg
  | dead => simp [V.grab] at hg
  | adr => simp [V.grab] at hg
  | fadr => simp [V.grab] at hg
  | root => simp [V.grab] at hg
  | fn => simp [V.grab] at hg
end

/-- a place in memory lies in a block of plain cells -/
theorem sub_fr {w : World} {Z : Nat → Prop} : ∀ (p : Path) {s : Sh} {f : Fl} {x : s.ty} {cs : List Value} {ad : Option Addr} {B : Nat → Prop}, Rep w Z s f x cs B → Ok s f x p → ∀ {cs1 : List Value} {ad1 : Option Addr}, sub w s cs ad p = some (cs1, ad1) →
    ∀ A, ad1 = some A → (∃ A0, ad = some A0 ∧ A0.block = A.block) ∨ ∃ cur e, w.heap[A.block]? = some (.cells cur e (0, 0)) := by
  intro p
  induction p with
  | nil =>
    intro s f x cs ad B _ _ cs1 ad1 h A hA
    rw [sub_nil] at h
    obtain ⟨_, rfl⟩ := Prod.mk.inj (Option.some.inj h)
    exact .inl ⟨A, hA, rfl⟩
  | cons st p ih =>
    intro s f x cs ad B hR hOk cs1 ad1 h A hA
    cases s with
    | pr a b =>
      obtain ⟨c1, c2, B1, B2, rfl, k1, k2, k3, k4, k5⟩ := hR
      cases st with
      | l => simp only [sub] at h; rw [List.take_left' k4.len] at h; exact ih k4 hOk h A hA
      | r =>
        simp only [sub] at h; rw [List.drop_left' k4.len] at h
        rcases ih k5 hOk h A hA with ⟨A0, e1, e2⟩ | h
        · obtain ⟨A1, e3, e4⟩ := Option.map_eq_some_iff.1 e1
          exact .inl ⟨A1, e3, by rw [← e2, ← e4, add_block]⟩
        · exact .inr h
      | el i => simp [Ok] at hOk
    | sl e s0 =>
      cases st with
      | el i =>
        obtain ⟨hf, hi, hOk'⟩ := hOk
        have aux : ∀ f0 : Fl, Ok s0 f0 (x.getD i s0.zero) p → OwnR w e s0.size (fun x c B' => Rep w Z s0 f0 x c B') s0.zero x cs B → (∃ A0, ad = some A0 ∧ A0.block = A.block) ∨ ∃ cur e, w.heap[A.block]? = some (.cells cur e (0, 0)) := by
          intro f0 hO hR
          rcases hR with ⟨A, rfl, rfl⟩ | ⟨g, cap, cur, rows, Bs, rfl, h2, h3, h4, h5, h6, h7, h8⟩
          · simp at hi
          · obtain ⟨q1, q2, q3, q4⟩ := h7 i hi
            simp only [sub] at h
            rw [rowCells_eq (w := w) q1 (fun j hj => by rw [add_add, cell_row h2, q2 j hj])] at h
            rcases ih q4 hO h A hA with ⟨A0, e1, e2⟩ | h
            · obtain rfl := Option.some.inj e1
              rw [add_block] at e2
              exact .inr ⟨cur, e, by rw [← e2]; exact h2⟩
            · exact .inr h
        rcases hf with rfl | rfl | ⟨n0, c0, rfl⟩
        · exact aux _ hOk' hR
        · exact aux _ hOk' hR
        · exact aux _ hOk' hR.1
      | l => simp [Ok] at hOk
      | r => simp [Ok] at hOk
    | unit => simp [Ok] at hOk
    | int _ => simp [Ok] at hOk
    | bool => simp [Ok] at hOk
    | str => simp [Ok] at hOk

theorem Rel.placeFr {L : Lay} {st : St} {a : Act} {w : World} {R : Nat → Prop} (h : Rel L st a w R) {g : Nat} {p : Path} {s1 : Sh} {cs1 : List Value} {A : Addr} (hp : Place L st w g p s1 cs1 (some A)) : ∃ cur e, w.heap[A.block]? = some (.cells cur e (0, 0)) := by
  obtain ⟨k, s, f, x, e1, e2, e3, e4⟩ := hp
  obtain ⟨r1, B, r2, r3, r4⟩ := h.root e1
  rcases sub_fr p r4 e2 e4 A rfl with ⟨A0, u1, u2⟩ | h
  · cases k with
    | val agg => rw [r1.2.2] at u1; cases u1
    | tup aggs => rw [r1.2.2] at u1; cases u1
    | box t =>
      obtain ⟨b, m1, m2, m3⟩ := r1
      rw [m3] at u1
      obtain rfl := Option.some.inj u1
      exact ⟨_, _, by rw [← u2]; exact m2⟩
    | ibox t b =>
      obtain ⟨m1, m2, m3⟩ := r1
      rw [m3] at u1
      obtain rfl := Option.some.inj u1
      exact ⟨_, _, by rw [← u2]; exact m2⟩
  · exact h

theorem wrArr_list (c : Array Value) (off : Nat) (vs : List Value) (h : off + vs.length ≤ c.size) : wrArr c off vs = (c.toList.take off ++ vs ++ c.toList.drop (off + vs.length)).toArray := by
  apply Array.ext_getElem?
  intro k
  simp only [List.getElem?_toArray]
  by_cases h1 : k < off
  · rw [wrArr_out _ _ _ _ (.inl h1), List.append_assoc, List.getElem?_append_left (by simp; omega)]
    simp [h1]
  · by_cases h2 : k < off + vs.length
    · have e : k = off + (k - off) := by omega
      rw [e, wrArr_in vs c off _ h (by omega), List.append_assoc, List.getElem?_append_right (by simp; omega), List.getElem?_append_left (by simp; omega)]
      congr 1
      simp; omega
    · rw [wrArr_out _ _ _ _ (.inr (by omega)), List.getElem?_append_right (by simp; omega)]
      simp only [List.getElem?_drop, List.length_append, List.length_take, Array.length_toList]
      rw [Array.getElem?_toList]
      congr 1
      omega

/-- the machine's store of cells at a place -/
theorem run_storeAt {P : Program} {w : World} {A : Addr} {cs n : List Value} {cur : Array Value} {e : TypeId} (hA : At w (some A) cs) (hl : n.length = cs.length) (hp : 0 < cs.length) (hc : w.heap[A.block]? = some (.cells cur e (0, 0))) (h1 : ∀ u ∈ n, u.oneCell' = true) :
    ∃ w', (storeCells A n).run P w = .ok () w' ∧ Wr w w' A n ∧ A.spot = none ∧ w'.heap.size = w.heap.size ∧ w'.os = w.os ∧ w'.tape = w.tape ∧ w'.output = w.output := by
  have hsp := At.spot hA hp
  have hbd : A.off + cs.length ≤ cur.size := by
    have := hA A rfl (cs.length - 1) (by omega)
    rw [cell_at hsp hc, List.getElem?_eq_getElem (by omega)] at this
    have := (Array.getElem?_eq_some_iff.1 this).1
    omega
  have hAe : A = ⟨A.block, A.off, none⟩ := by cases A; simp at hsp; subst hsp; rfl
  refine ⟨w.setRow A.block (wrArr cur A.off n), ?_, ⟨fun b hb => setRow_other w _ b _ hb, fun cur' e' fr' hh => ?_⟩, hsp, by simp [World.setRow], rfl, rfl, rfl⟩
  · rw [wrArr_list _ _ _ (by omega)]
    have := run_storeCells_at P A.block A.off e n 0 cur w hc (by omega) h1
    rw [hAe]
    simpa using this
  · rw [hc] at hh
    obtain ⟨rfl, rfl, hfr⟩ : cur = cur' ∧ e = e' ∧ ((0, 0) : Nat × Nat) = fr' := by
      have := Option.some.inj hh
      injection this with q1 q2 q3
      exact ⟨q1, q2, q3⟩
    subst hfr
    exact setRow_heap w _ cur _ e _ hc

/-! ### the table of types -/
def isAggT (P : Program) (t : Nat) : Bool := match P.underlying t with
  | some (.struct _) => true
  | some (.array _ _) => true
  | _ => false

/-- a field's offset and shape -/
def fieldAt : Sh → Nat → Nat → Option (Nat × Sh)
  | s, 0, 1 => some (0, s)
  | .pr a _, 0, _ + 2 => some (0, a)
  | .pr a b, i + 1, n + 2 => (fieldAt b i (n + 1)).map fun q => (a.size + q.1, q.2)
  | _, _, _ => none

structure FieldOk (P : Program) (i : TI) (fs : Array Field) (n : Nat) : Prop where
  ex : ∃ f agg1 s1 o fi, fs[n]? = some f ∧ i.fs[n]? = some (agg1, s1) ∧ fieldAt i.sh n i.nf = some (o, s1) ∧ f.offset = o ∧ P.info? f.type = some fi ∧ fi.size = s1.size ∧ 0 < s1.size ∧ isAggT P f.type = agg1 ∧ (P.underlying f.type).isSome = true ∧ (agg1 = false → s1.size = 1)

def Sh.isPr : Sh → Bool
  | .pr _ _ => true
  | _ => false

/-- a struct's fields are scalars, laid as the shape says -/
def Flat (P : Program) : List Field → Sh → Nat → Prop
  | [f], s, o => f.offset = o ∧ f.name ≠ "_" ∧ isAggT P f.type = false ∧ ((∃ k, s = .int k ∧ P.underlying f.type = some (.int k)) ∨ (s = .bool ∧ P.underlying f.type = some .bool) ∨ (s = .str ∧ P.underlying f.type = some .string))
  | f :: g :: r, .pr s b, o => (f.offset = o ∧ f.name ≠ "_" ∧ isAggT P f.type = false ∧ ((∃ k, s = .int k ∧ P.underlying f.type = some (.int k)) ∨ (s = .bool ∧ P.underlying f.type = some .bool) ∨ (s = .str ∧ P.underlying f.type = some .string))) ∧ Flat P (g :: r) b (o + 1)
  | _, _, _ => False

structure TOk (P : Program) (t : Nat) (i : TI) : Prop where
  noPr : i.agg = false → i.sh.isPr = false
  info : ∃ ti z, P.info? t = some ti ∧ ti.size = i.sh.size ∧ ti.bytes = i.bytes ∧ ti.zero = some z ∧ z.cells.toList = i.sh.encZ
  pos : 0 < i.sh.size
  agg : isAggT P t = i.agg
  isS : (P.underlying t).isSome = true
  one : i.agg = false → i.sh.size = 1
  str : i.agg = true → ∃ fs, P.underlying t = some (.struct fs) ∧ fs.size = i.nf ∧ ∀ n, n < i.nf → FieldOk P i fs n
  cmp : i.cmp = true → i.agg = true → ∃ fs, P.underlying t = some (.struct fs) ∧ Flat P fs.toList i.sh 0 ∧ P.stoodInHeld t = false ∧ P.eqGuardType P.depth t = false
  int : ∀ k, i.sh = .int k → i.agg = false → P.underlying t = some (.int k)
  str' : i.sh = .str → i.agg = false → P.underlying t = some .string
  bool : i.sh = .bool → i.agg = false → P.underlying t = some .bool
  sl : ∀ e s, i.sh = .sl e s → i.agg = false → P.underlying t = some (.slice e) ∧ ∃ ti z, P.info? e = some ti ∧ ti.size = s.size ∧ ti.zero = some z ∧ z.cells.toList = s.encZ ∧ 0 < s.size

def TabOk (P : Program) (T : List (Nat × TI)) : Prop := ∀ t i, tget T t = some i → TOk P t i

theorem run_isAgg {P : Program} {t : Nat} (h : (P.underlying t).isSome = true) (w : World) : (isAgg t).run P w = .ok (isAggT P t) w := by
  obtain ⟨d, hd⟩ := Option.isSome_iff_exists.1 h
  unfold isAgg isAggT
  simp only [Sem.run_bind, run_underlying hd, Result.andThen_ok, hd]
  cases d <;> rfl

theorem mkV_cells {agg : Bool} {cs : List Value} {v : Value} (h : mkV agg cs v) (h1 : ∀ u ∈ cs, u.oneCell' = true) : v.cells.toList = cs := by
  unfold mkV at h
  cases agg with
  | true => simp only [if_true] at h; subst h; rfl
  | false =>
    simp only [Bool.false_eq_true, if_false] at h
    subst h
    have := h1 v List.mem_cons_self
    cases v <;> first | rfl | simp [Value.oneCell'] at this

theorem run_loadVarAt {P : Program} {w : World} {t : Nat} {i : TI} (hT : TOk P t i) {A : Addr} {cs : List Value} (hA : At w (some A) cs) (hl : cs.length = i.sh.size) : ∃ v, (loadVar t A).run P w = .ok v w ∧ mkV i.agg cs v := by
  obtain ⟨ti, z, h1, h2, h3, h4, h5⟩ := hT.info
  unfold loadVar
  simp only [Sem.run_bind, run_isAgg hT.isS, Result.andThen_ok, hT.agg]
  cases hagg : i.agg with
  | true =>
    have hls := run_loadCells_list (P := P) w A cs (fun j v hv => by
      have hj : j < cs.length := (List.getElem?_eq_some_iff.1 hv).1
      rw [hA A rfl j hj]; exact hv)
    refine ⟨.agg cs.toArray, ?_, rfl⟩
    simp [sizeOf, typeInfo, h1, h2, ← hl, hls]
  | false =>
    have hn := hT.one hagg
    match cs, hl with
    | [v], _ =>
      refine ⟨v, ?_, rfl⟩
      have := hA A rfl 0 (by simp)
      simp only [Bool.false_eq_true, if_false]
      have e : A.add 0 = A := by simp [Addr.add]
      rw [e] at this
      simp [run_load, this]
    | [], hl => simp at hl; omega
    | _ :: _ :: _, hl => simp at hl; omega

theorem run_storeVarAt {P : Program} {w : World} {t : Nat} {i : TI} (hT : TOk P t i) {A : Addr} {cs n : List Value} {v : Value} {cur : Array Value} {e : TypeId} (hA : At w (some A) cs) (hl : cs.length = i.sh.size) (hn : n.length = i.sh.size) (hv : mkV i.agg n v) (hc : w.heap[A.block]? = some (.cells cur e (0, 0))) (h1 : ∀ u ∈ n, u.oneCell' = true) :
    ∃ w', (storeVar t A v).run P w = .ok () w' ∧ Wr w w' A n ∧ A.spot = none ∧ w'.heap.size = w.heap.size ∧ w'.os = w.os ∧ w'.tape = w.tape ∧ w'.output = w.output := by
  obtain ⟨ti, z, q1, q2, q3, q4, q5⟩ := hT.info
  obtain ⟨w', r1, r2⟩ := run_storeAt (P := P) hA (by omega) (by have := hT.pos; omega) hc h1
  refine ⟨w', ?_, r2⟩
  have hcl := mkV_cells hv h1
  have hcs : v.cells.size = i.sh.size := by rw [← Array.length_toList, hcl, hn]
  unfold storeVar
  simp [sizeOf, typeInfo, q1, q2, hcs, hcl, r1]
end Go.Proofs.Yteeklekfafedcaa.V

/- The operations, one by one: third part. No condition. -/
import Derived.Test.YteeklekfafedcaaV8
import Derived.Laws.Slices
set_option linter.unusedVariables false
namespace Go.Proofs.Yteeklekfafedcaa.V
open Go Go.RowKit

theorem addr_zero (A : Addr) : A.add 0 = A := by simp [Addr.add]

theorem Rep.slen {w : World} {Z : Nat → Prop} {e : TypeId} {s : Sh} {f : Fl} {xs : List s.ty} {cs : List Value} {B : Nat → Prop} (h : Rep w Z (.sl e s) f xs cs B) (hf : f.good = true) : ∃ A c, cs = [.slice A xs.length c] := by
  have aux : ∀ f0 : Fl, OwnR w e s.size (fun x c B' => Rep w Z s f0 x c B') s.zero xs cs B → ∃ A c, cs = [.slice A xs.length c] := by
    intro f0 h
    rcases h with ⟨A, rfl, rfl⟩ | ⟨g, cap, cur, rows, Bs, rfl, _⟩
    · exact ⟨A, 0, rfl⟩
    · exact ⟨_, cap, rfl⟩
  cases f with
  | fz => obtain ⟨A, c, h1, _⟩ := h; exact ⟨A, c, h1⟩
  | own => exact aux _ h
  | ownf => exact aux _ h
  | io n c => exact aux _ h.1
  | kz A c => exact ⟨A, c, h.2⟩
  | junk => cases hf
  | pr => cases hf

theorem get_app : ∀ (p q : Path) {s : Sh} {f : Fl} {x : s.ty} {s1 : Sh} {f1 : Fl} {x1 : s1.ty}, get s f x p = some ⟨s1, f1, x1⟩ → get s f x (p ++ q) = get s1 f1 x1 q := by
  intro p q
  induction p with
  | nil =>
    intro s f x s1 f1 x1 h
    rw [get_nil] at h
    cases Option.some.inj h
    rfl
  | cons st p ih =>
    intro s f x s1 f1 x1 h
    cases s with
    | pr a b => cases st with
      | l => exact ih h
      | r => exact ih h
      | el i => simp [get] at h
    | sl e s0 => cases st with
      | el i => cases f <;> simp only [get, List.cons_append] at h ⊢ <;> first | exact ih h | cases h
      | l => simp [get] at h
      | r => simp [get] at h
    | unit => simp [get] at h
    | int _ => simp [get] at h
    | bool => simp [get] at h
    | str => simp [get] at h

theorem Ok_app : ∀ (p q : Path) {s : Sh} {f : Fl} {x : s.ty} {s1 : Sh} {f1 : Fl} {x1 : s1.ty}, get s f x p = some ⟨s1, f1, x1⟩ → Ok s f x p → Ok s1 f1 x1 q → Ok s f x (p ++ q) := by
  intro p q
  induction p with
  | nil =>
    intro s f x s1 f1 x1 h _ k
    rw [get_nil] at h
    cases Option.some.inj h
    exact k
  | cons st p ih =>
    intro s f x s1 f1 x1 h h2 k
    cases s with
    | pr a b => cases st with
      | l => exact ih h h2 k
      | r => exact ih h h2 k
      | el i => simp [get] at h
    | sl e s0 => cases st with
      | el i =>
        obtain ⟨e1, e2, e3⟩ := h2
        refine ⟨e1, e2, ?_⟩
        rcases e1 with rfl | rfl | ⟨n0, c0, rfl⟩
        · exact ih h e3 k
        · exact ih h e3 k
        · exact ih h e3 k
      | l => simp [get] at h
      | r => simp [get] at h
    | unit => simp [get] at h
    | int _ => simp [get] at h
    | bool => simp [get] at h
    | str => simp [get] at h

theorem sub_app {w : World} : ∀ (p q : Path) {s : Sh} {f : Fl} {x : s.ty} {s1 : Sh} {f1 : Fl} {x1 : s1.ty} {cs : List Value} {ad : Option Addr} {cs1 : List Value} {ad1 : Option Addr}, get s f x p = some ⟨s1, f1, x1⟩ → sub w s cs ad p = some (cs1, ad1) → sub w s cs ad (p ++ q) = sub w s1 cs1 ad1 q := by
  intro p q
  induction p with
  | nil =>
    intro s f x s1 f1 x1 cs ad cs1 ad1 h k
    rw [get_nil] at h
    cases Option.some.inj h
    rw [sub_nil] at k
    obtain ⟨rfl, rfl⟩ := Prod.mk.inj (Option.some.inj k)
    rfl
  | cons st p ih =>
    intro s f x s1 f1 x1 cs ad cs1 ad1 h k
    cases s with
    | pr a b => cases st with
      | l => exact ih h k
      | r => exact ih h k
      | el i => simp [get] at h
    | sl e s0 => cases st with
      | el i =>
        simp only [sub, List.cons_append] at k ⊢
        split at k
        · cases f <;> simp only [get] at h <;> first | exact ih h k | cases h
        · cases k
      | l => simp [get] at h
      | r => simp [get] at h
    | unit => simp [get] at h
    | int _ => simp [get] at h
    | bool => simp [get] at h
    | str => simp [get] at h

theorem Place.app {L : Lay} {st : St} {w : World} {g : Nat} {p q : Path} {s1 : Sh} {cs1 : List Value} {ad1 : Option Addr} (h : Place L st w g p s1 cs1 ad1) {f1 : Fl} {x1 : s1.ty} (hl : look st g p = some ⟨s1, f1, x1⟩)
    (hk : Ok s1 f1 x1 q) {s2 : Sh} {f2 : Fl} {x2 : s2.ty} (hg : get s1 f1 x1 q = some ⟨s2, f2, x2⟩) {cs2 : List Value} {ad2 : Option Addr} (hs : sub w s1 cs1 ad1 q = some (cs2, ad2)) : Place L st w g (p ++ q) s2 cs2 ad2 := by
  obtain ⟨k, s, f, x, e1, e2, e3, e4⟩ := h
  unfold look at hl
  rw [e1] at hl
  exact ⟨k, s, f, x, e1, Ok_app p q hl e2 hk, ⟨f2, x2, by rw [get_app p q hl]; exact hg⟩, by rw [sub_app p q hl e4]; exact hs⟩

theorem Place.shape {L : Lay} {st : St} {w : World} {g : Nat} {p : Path} {s1 : Sh} {cs1 : List Value} {ad1 : Option Addr} (h : Place L st w g p s1 cs1 ad1) {s : Sh} {f : Fl} {x : s.ty} (hl : look st g p = some ⟨s, f, x⟩) : s = s1 := by
  obtain ⟨k0, s0, f0, x0, e1, e2, ⟨f1, x1, e3⟩, e4⟩ := h
  unfold look at hl
  rw [e1] at hl
  simp only at hl
  rw [e3] at hl
  exact (congrArg Sigma.fst (Option.some.inj hl)).symm

/-- a field's place in a struct's cells -/
theorem field_at : ∀ (n m : Nat) {s : Sh} {o : Nat} {s1 : Sh}, fieldAt s n m = some (o, s1) → ∀ (f : Fl) (x : s.ty), Ok s f x (fpath n m) ∧ (∃ f1 x1, get s f x (fpath n m) = some ⟨s1, f1, x1⟩) ∧ o + s1.size ≤ s.size ∧
    (∀ (w : World) (cs : List Value) (ad : Option Addr), cs.length = s.size → sub w s cs ad (fpath n m) = some ((cs.drop o).take s1.size, ad.map (·.add o))) ∧
    (∀ (w : World) (Z : Nat → Prop) (cs : List Value) (x1 : s1.ty), Rep w Z s .fz x cs (fun _ => False) → (∃ f1, get s .fz x (fpath n m) = some ⟨s1, f1, x1⟩) → Rep w Z s1 .fz x1 ((cs.drop o).take s1.size) (fun _ => False)) := by
  intro n
  induction n with
  | zero =>
    intro m s o s1 h f x
    have last : ∀ s : Sh, ∀ x : s.ty, fieldAt s 0 1 = some (o, s1) → Ok s f x [] ∧ (∃ f1 x1, get s f x [] = some ⟨s1, f1, x1⟩) ∧ o + s1.size ≤ s.size ∧
        (∀ (w : World) (cs : List Value) (ad : Option Addr), cs.length = s.size → sub w s cs ad [] = some ((cs.drop o).take s1.size, ad.map (·.add o))) ∧
        (∀ (w : World) (Z : Nat → Prop) (cs : List Value) (x1 : s1.ty), Rep w Z s .fz x cs (fun _ => False) → (∃ f1, get s .fz x [] = some ⟨s1, f1, x1⟩) → Rep w Z s1 .fz x1 ((cs.drop o).take s1.size) (fun _ => False)) := by
      intro s x h
      have e : (0, s) = (o, s1) := by cases s <;> exact Option.some.inj h
      obtain ⟨rfl, rfl⟩ := Prod.mk.inj e
      refine ⟨by cases s <;> trivial, ⟨f, x, get_nil _ _ _⟩, by omega, fun w cs ad hl => ?_, fun w Z cs x1 hR hg => ?_⟩
      · rw [sub_nil]
        have : ad.map (·.add 0) = ad := by cases ad <;> simp [addr_zero]
        rw [this, List.drop_zero, ← hl, List.take_length]
      · obtain ⟨f1, hg⟩ := hg
        rw [get_nil] at hg
        cases Option.some.inj hg
        rw [List.drop_zero, ← hR.len, List.take_length]; exact hR
    match m with
    | 0 => cases s <;> simp [fieldAt] at h
    | 1 => exact last s x h
    | m + 2 =>
      cases s with
      | pr a b =>
        simp only [fieldAt, Option.some.injEq, Prod.mk.injEq] at h
        obtain ⟨rfl, rfl⟩ := h
        have hfp : fpath 0 (m + 2) = [.l] := by simp [fpath]
        rw [hfp]
        refine ⟨by show Ok a f.l x.1 []; cases a <;> trivial, ⟨f.l, x.1, get_nil _ _ _⟩, by simp [Sh.size], fun w cs ad hl => ?_, fun w Z cs x1 hR hg => ?_⟩
        · have : ad.map (·.add 0) = ad := by cases ad <;> simp [addr_zero]
          show sub w a (cs.take a.size) ad [] = _
          rw [sub_nil, this, List.drop_zero]
        · obtain ⟨f1, hg⟩ := hg
          have hg : get a Fl.fz x.1 [] = some ⟨a, f1, x1⟩ := hg
          rw [get_nil] at hg
          cases Option.some.inj hg
          obtain ⟨c1, c2, B1, B2, rfl, k1, k2, k3, k4, k5⟩ := hR
          rw [List.drop_zero, List.take_left' k4.len]
          exact k4.mono k1
      | unit => simp [fieldAt] at h
      | int _ => simp [fieldAt] at h
      | bool => simp [fieldAt] at h
      | str => simp [fieldAt] at h
      | sl _ _ => simp [fieldAt] at h
  | succ n ih =>
    intro m s o s1 h f x
    match m with
    | 0 => cases s <;> simp [fieldAt] at h
    | 1 => cases s <;> simp [fieldAt] at h
    | m + 2 =>
      cases s with
      | pr a b =>
        simp only [fieldAt, Option.map_eq_some_iff] at h
        obtain ⟨⟨o', s'⟩, h1, h2⟩ := h
        obtain ⟨rfl, rfl⟩ := Prod.mk.inj h2
        obtain ⟨i1, i2, i3, i4, i5⟩ := ih (m + 1) h1 f.r x.2
        refine ⟨i1, i2, by simp only [Sh.size]; omega, fun w cs ad hl => ?_, fun w Z cs x1 hR hg => ?_⟩
        · show sub w b (cs.drop a.size) (ad.map (·.add a.size)) (fpath n (m + 1)) = _
          rw [i4 w _ _ (by simp only [Sh.size] at hl; simp; omega), List.drop_drop]
          congr 2
          cases ad <;> simp [add_add]
        · obtain ⟨c1, c2, B1, B2, rfl, k1, k2, k3, k4, k5⟩ := hR
          have := i5 w Z c2 x1 (k5.mono k2) hg
          rw [← List.drop_drop, List.drop_left' k4.len]
          exact this
      | unit => simp [fieldAt] at h
      | int _ => simp [fieldAt] at h
      | bool => simp [fieldAt] at h
      | str => simp [fieldAt] at h
      | sl _ _ => simp [fieldAt] at h

section
variable {P : Program} {o : Oper} {L L1 : Lay} {st st1 : St} {a : Act} {w w' : World} {R : Nat → Prop} {T : List (Nat × TI)} {rt : St} {out : Out}

theorem caps_rep (h : Rel L st a w R) : ∀ (xs : List Operand) (cs : List Cap), capsOf st xs = some cs → xs.length = cs.length ∧ ∀ (i : Nat) (c : Cap) (u : Value), cs[i]? = some c → (xs.map a.eval)[i]? = some u → CapRep L st w c u
  | [], cs, hc => by
    obtain rfl := Option.some.inj hc
    exact ⟨rfl, fun i c u hi => by simp at hi⟩
  | x :: r, cs, hc => by
    simp only [capsOf] at hc
    split at hc
    · rename_i c cs' h1 h2
      obtain rfl := Option.some.inj hc
      obtain ⟨q1, q2⟩ := caps_rep h r cs' h2
      refine ⟨by simp [q1], fun i c' u hi hu => ?_⟩
      cases i with
      | zero =>
        simp only [List.getElem?_cons_zero, Option.some.injEq, List.map_cons] at hi hu
        subst hi; subst hu
        have hv := h.opnd x
        unfold cOf at h1
        split at h1
        · rename_i g p hx
          obtain rfl := Option.some.inj h1
          rw [hx] at hv; exact hv
        · rename_i s y hx
          obtain rfl := Option.some.inj h1
          rw [hx] at hv; exact hv
        · cases h1
      | succ i =>
        simp only [List.getElem?_cons_succ, List.map_cons] at hi hu
        exact q2 i c' u hi hu
    · cases hc

theorem pop_makeFunc (h : Rel L st a w Free) {f : FuncId} {first caps : Array Operand} (ho : o.op = .makeFunc (.func f) first caps) (hp : pop T rt st o = some out) : out.c = true ∧ Goes P o a w L out.st out.pv ∧ (out.cl = true → out.st = st) := by
  unfold pop at hp
  rw [ho] at hp
  simp only at hp
  split at hp
  · rename_i he
    split at hp
    · rename_i cs hcs
      obtain rfl := (Option.some.inj hp)
      obtain ⟨q1, q2⟩ := caps_rep h _ _ hcs
      have he' : first = #[] := by simpa [Array.isEmpty_iff] using he
      subst he'
      refine ⟨rfl, goes_o (v := .func (.func f) #[] (caps.toList.map a.eval).toArray) ?_ (Stp.refl _ _) h rfl ⟨_, rfl, by simpa using q1, q2⟩, fun _ => rfl⟩
      have : (caps.toList.map a.eval).toArray = caps.map a.eval := by apply Array.ext'; simp
      rw [this]
      simp [execOp, ho, Instr.makeFunc]
    · cases hp
  · cases hp

theorem run_slice_gen {t e : TypeId} {n : Nat} (ht : P.underlying t = some (.slice e)) (hz : ∀ w, (sizeOf e).run P w = .ok n w) (A : Option Addr) (len cap : Nat) (lo hi : Option Value) (l h : Nat) (hl : (lo = none ∧ l = 0) ∨ ∃ k, lo = some (.int k (l : Int))) (hh : (hi = none ∧ h = len) ∨ ∃ k, hi = some (.int k (h : Int))) (h1 : l ≤ h) (h2 : h ≤ cap) :
    (Instr.sliceAt t (.slice A len cap) lo hi none).run P w = .ok (sliced A l h cap n) w := by
  rcases hl with ⟨rfl, rfl⟩ | ⟨k, rfl⟩ <;> rcases hh with ⟨rfl, rfl⟩ | ⟨k', rfl⟩ <;>
    simp [Instr.sliceAt, Instr.slice, run_underlying ht, Instr.sliceBounds, hz, sliced, run_sliceBound, h1, h2]

theorem run_sliceS_gen {t : TypeId} (ht : P.underlying t = some .string) (s : ByteArray) (lo hi : Option Value) (l h : Nat) (hl : (lo = none ∧ l = 0) ∨ ∃ k, lo = some (.int k (l : Int))) (hh : (hi = none ∧ h = s.size) ∨ ∃ k, hi = some (.int k (h : Int))) (h1 : l ≤ h) (h2 : h ≤ s.size) :
    (Instr.sliceAt t (.string s) lo hi none).run P w = .ok (.string (s.extract l h)) w := by
  rcases hl with ⟨rfl, rfl⟩ | ⟨k, rfl⟩ <;> rcases hh with ⟨rfl, rfl⟩ | ⟨k', rfl⟩ <;>
    simp [Instr.sliceAt, Instr.slice, run_underlying ht, Instr.sliceBounds, run_sliceBound, h1, h2]

theorem bound_val (h : Rel L st a w R) {d : Int} {y : Option Operand} {n : Int} (hb : bound st d y = some n) : (y.map a.eval = none ∧ n = d) ∨ ∃ k, y.map a.eval = some (.int k n) := by
  cases y with
  | none => exact .inl ⟨rfl, (Option.some.inj hb).symm⟩
  | some y =>
    simp only [bound] at hb
    split at hb
    · rename_i k m hy
      obtain rfl := Option.some.inj hb
      have hv := h.opnd y
      rw [hy] at hv
      exact .inr ⟨k, by simp [hv.int]⟩
    · cases hb

theorem run_size {t : TypeId} {ti : TypeInfo} (h : P.info? t = some ti) (w : World) : (sizeOf t).run P w = .ok ti.size w := by simp [sizeOf, typeInfo, h]

theorem OwnR.take {α : Type} {w : World} {e : TypeId} {n : Nat} {R : α → List Value → (Nat → Prop) → Prop} {z : α} {xs : List α} {v : Value} {B : Nat → Prop} (h : OwnR w e n R z xs [v] B) : ∃ A c, v = .slice A xs.length c ∧ xs.length ≤ c ∧ ∀ b, b ≤ xs.length → OwnR w e n R z (xs.take b) [.slice A b c] B := by
  rcases h with ⟨A, hA, rfl⟩ | ⟨g, cap, cur, rows, Bs, hA, h2, h3, h4, h5, h6, h7, h8⟩
  · have hA : v = .slice A 0 0 := by simpa using hA
    refine ⟨A, 0, hA, Nat.le_refl _, fun b hb => .inl ⟨A, ?_, by simp⟩⟩
    have : b = 0 := by simpa using hb
    rw [this]
  · have hA : v = .slice (some ⟨g, 0, none⟩) xs.length cap := by simpa using hA
    refine ⟨_, cap, hA, h3, fun b hb => .inr ⟨g, cap, cur, rows, Bs, by rw [List.length_take, Nat.min_eq_left hb], h2, by rw [List.length_take]; omega, h4, h5, h6, fun i hi => ?_, fun i j b' hi hj => ?_⟩⟩
    · rw [List.length_take] at hi
      obtain ⟨q1, q2, q3, q4⟩ := h7 i (by omega)
      refine ⟨q1, q2, q3, ?_⟩
      rw [List.getD_eq_getElem?_getD, List.getElem?_take_of_lt (by omega), ← List.getD_eq_getElem?_getD]
      exact q4
    · rw [List.length_take] at hi hj
      exact h8 i j b' (by omega) (by omega)

theorem pop_slice (hT : TabOk P T) (h : Rel L st a w Free) {t : Nat} {x : Operand} {lo hi : Option Operand} (ho : o.op = .slice t x lo hi none) (hp : pop T rt st o = some out) (hc : out.c = true) : Goes P o a w L out.st out.pv ∧ (out.cl = true → out.st = st) := by
  unfold pop at hp
  rw [ho] at hp
  simp only at hp
  have hv := h.opnd x
  split at hp
  · rename_i e s b n fs cm hi0
    obtain ⟨hu, ti, z, i1, i2, i3, i4, i5⟩ := (hT t _ hi0).sl e s rfl rfl
    have hz : ∀ w, (sizeOf e).run P w = .ok s.size w := fun w => by rw [run_size i1, i2]
    split at hp
    · rename_i s' xs hx
      split at hp
      · rename_i ys hxs
        split at hp
        · rename_i l r hl hr
          obtain rfl := (Option.some.inj hp)
          refine ⟨?_, fun _ => rfl⟩
          obtain ⟨rfl, hxs⟩ := castTo_some hxs
          simp only at hxs
          subst hxs
          rw [hx] at hv
          obtain ⟨cs, m1, A, c, rfl, q1, q1', q2⟩ := hv
          have hval : a.eval x = .slice A xs.length c := by simpa [mkV] using m1.symm
          simp only [decide_eq_true_eq] at hc
          obtain ⟨c1, c2, c3⟩ := hc
          have el : ((l.toNat : Nat) : Int) = l := Int.toNat_of_nonneg c1
          have er : ((r.toNat : Nat) : Int) = r := Int.toNat_of_nonneg (by omega)
          have hbl := bound_val h hl
          have hbr := bound_val h hr
          have hrun := run_slice_gen (P := P) (w := w) hu hz A xs.length c (lo.map a.eval) (hi.map a.eval) l.toNat r.toNat (by rw [el]; exact hbl.imp (fun q => ⟨q.1, by omega⟩) id) (by rw [er]; exact hbr.imp (fun q => ⟨q.1, by omega⟩) id) (by omega) (by omega)
          refine goes_o (v := sliced A l.toNat r.toNat c s.size) ?_ (Stp.refl _ _) h rfl ⟨[sliced A l.toNat r.toNat c s.size], rfl, ?_⟩
          · simp [execOp, ho, hval, hrun]
          · have hlen : ((xs.take r.toNat).drop l.toNat).length = r.toNat - l.toNat := by simp; omega
            refine ⟨if c = l.toNat then A else A.map (·.add (l.toNat * s.size)), c - l.toNat, by rw [hlen]; rfl, by rw [hlen]; omega, by rw [hlen]; omega, fun hpos => ?_⟩
            rw [hlen] at hpos
            obtain ⟨ad, e1, e2, e3⟩ := q2 (by omega)
            refine ⟨ad.add (l.toNat * s.size), by rw [if_neg (by omega), e1]; rfl, by rw [add_block]; exact e2, fun i hi => ?_⟩
            rw [hlen] at hi
            obtain ⟨c', k1, k2, k3⟩ := e3 (l.toNat + i) (by omega)
            refine ⟨c', k1, fun j hj => ?_, ?_⟩
            · rw [add_add, ← k2 j hj]
              congr 2
              rw [Nat.add_mul]; omega
            · have : ((xs.take r.toNat).drop l.toNat).getD i s.zero = xs.getD (l.toNat + i) s.zero := by
                rw [List.getD_eq_getElem?_getD, List.getD_eq_getElem?_getD, List.getElem?_drop, List.getElem?_take_of_lt (by omega)]
              rw [this]; exact k3
        · cases hp
      · cases hp
    · rename_i hx
      split at hp
      · rename_i l r hl hr
        obtain rfl := (Option.some.inj hp)
        refine ⟨?_, fun _ => rfl⟩
        rw [hx] at hv
        obtain ⟨A, hval⟩ := hv
        simp only [decide_eq_true_eq] at hc
        obtain ⟨c1, c2, c3⟩ := hc
        have hl0 : l = 0 := by omega
        have hr0 : r = 0 := by omega
        subst hl0; subst hr0
        have hrun := run_slice_gen (P := P) (w := w) hu hz A 0 0 (lo.map a.eval) (hi.map a.eval) 0 0 ((bound_val h hl).imp (fun q => ⟨q.1, rfl⟩) id) ((bound_val h hr).imp (fun q => ⟨q.1, rfl⟩) id) (by omega) (by omega)
        refine goes_o (v := sliced A 0 0 0 s.size) ?_ (Stp.refl _ _) h rfl ⟨A, rfl⟩
        simp [execOp, ho, hval, hrun]
      · cases hp
    · rename_i g p hx
      split at hp
      · cases hp
      · split at hp
        · rename_i s' f xs st' ht
          split at hp
          · rename_i ys hys
            split at hp
            · rename_i r hr
              split at hp
              · rename_i hf
                obtain rfl := (Option.some.inj hp)
                refine ⟨?_, fun e => by cases e⟩
                obtain ⟨rfl, hxs⟩ := castTo_some hys
                simp only at hxs
                subst hxs
                rw [hx] at hv
                obtain ⟨s1, cs1, ad1, hP, hm, hsl⟩ := hv
                obtain ⟨L', B1, g1, g2, g3, g4, g5⟩ := h.take ht hP
                have hcs : cs1 = [a.eval x] := by simpa [mkV] using hm
                subst hcs
                simp only [decide_eq_true_eq] at hc
                obtain ⟨c2, c3⟩ := hc
                have er : ((r.toNat : Nat) : Int) = r := Int.toNat_of_nonneg c2
                have hbr := bound_val h hr
                have hfs : ∃ f0, OwnR w e s.size (fun x c B' => Rep w L.Z s f0 x c B') s.zero xs [a.eval x] B1 ∧ ∀ (ys : List s.ty) (cs : List Value), OwnR w e s.size (fun x c B' => Rep w L.Z s f0 x c B') s.zero ys cs B1 → Rep w L.Z (.sl e s) f.unio ys cs B1 := by
                  rcases wr_spec hf with rfl | rfl | ⟨n0, c0, rfl⟩
                  · exact ⟨.own, g4, fun _ _ h => h⟩
                  · exact ⟨.fz, g4, fun _ _ h => h⟩
                  · exact ⟨.own, g4.1, fun _ _ h => h⟩
                obtain ⟨f0, k1, k2⟩ := hfs
                obtain ⟨A, c, hval, hcap, k3⟩ := k1.take
                have hrun := run_slice_gen (P := P) (w := w) hu hz A xs.length c none (hi.map a.eval) 0 r.toNat (.inl ⟨rfl, rfl⟩) (by rw [er]; exact hbr.imp (fun q => ⟨q.1, by omega⟩) id) (by omega) (by omega)
                have hsl0 : sliced A 0 r.toNat c s.size = .slice A r.toNat c := by
                  unfold sliced
                  have : A.map (·.add (0 * s.size)) = A := by cases A <;> simp [Addr.add]
                  rw [this]; simp
                refine goes_r (v := .slice A r.toNat c) (cs := [.slice A r.toNat c]) (ad := none) (B := B1) (Fd := B1) ?_ (Stp.sub g1 w) g2 ⟨rfl, fun _ => rfl, rfl⟩ (fun _ h => h) (fun A hA => by cases hA) ?_ (fun b hb => ⟨(g2.rlt b (.inr hb)).1, (g2.rlt b (.inr hb)).2, fun t ht => g2.rdj t b ht (.inr hb)⟩) (fun b hb => .inl (g3 b hb).2)
                · rw [hsl0] at hrun
                  simp [execOp, ho, hval, hrun]
                · rw [g1.Z]
                  exact k2 _ _ (k3 r.toNat (by omega))
              · cases hp
            · cases hp
          · cases hp
        · cases hp
    · cases hp
  · rename_i b n fs cm hi0
    have hu := (hT t _ hi0).str' rfl rfl
    split at hp
    · rename_i xs hx
      split at hp
      · rename_i l r hl hr
        obtain rfl := (Option.some.inj hp)
        refine ⟨?_, fun _ => rfl⟩
        rw [hx] at hv
        have hval := hv.str
        simp only [decide_eq_true_eq] at hc
        obtain ⟨c1, c2, c3⟩ := hc
        have el : ((l.toNat : Nat) : Int) = l := Int.toNat_of_nonneg c1
        have er : ((r.toNat : Nat) : Int) = r := Int.toNat_of_nonneg (by omega)
        have hbl := bound_val h hl
        have hbr := bound_val h hr
        have hrun := run_sliceS_gen (P := P) (w := w) hu xs (lo.map a.eval) (hi.map a.eval) l.toNat r.toNat (by rw [el]; exact hbl.imp (fun q => ⟨q.1, by omega⟩) id) (by rw [er]; exact hbr.imp (fun q => ⟨q.1, by omega⟩) id) (by omega) (by omega)
        refine goes_o (v := .string (xs.extract l.toNat r.toNat)) ?_ (Stp.refl _ _) h rfl (ORep.mkStr _)
        simp [execOp, ho, hval, hrun]
      · cases hp
    · cases hp
  · cases hp
end
end Go.Proofs.Yteeklekfafedcaa.V

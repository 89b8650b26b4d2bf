/- Texts A2 in one. No condition. -/
import Derived.Test.YtoeblmcibheldaaGreatDoorZScripts1
import Derived.Laws.Slices
import Derived.Laws.OwnMore
import Derived.Laws.Append
import Derived.Great.BuildSlice
import Derived.Laws.Cover3
set_option linter.unnecessarySimpa false
set_option linter.unusedSimpArgs false
set_option linter.unusedVariables false
section
section
/- The operations, one by one: third part. No condition. -/
namespace Go.Proofs.YtoeblmcibheldaaGreatDoor.V
open Go Go.RowKit
theorem addr_zero (A : Addr) : A.add 0 = A := by simp [Addr.add]
theorem Rep.slen {w : World} {Z : Nat → Prop} {e : TypeId} {s : Sh} {f : Fl} {xs : List s.ty} {cs : List Value} {B : Nat → Prop} (h : Rep w Z (.sl e s) f xs cs B) (hf : f.good = true) : ∃ A c, cs = [.slice A xs.length c] := by
 have aux : ∀ f0 : Fl, OwnR w e s.size (fun x c B' => Rep w Z s f0 x c B') s.zero xs cs B → ∃ A c, cs = [.slice A xs.length c] := by
  intro f0 h
  rcases h with ⟨A, rfl, rfl⟩ | ⟨g, cap, cur, rows, Bs, rfl, _⟩
  ·exact ⟨A, 0, rfl⟩
  ·exact ⟨_, cap, rfl⟩
 cases f with
 | fz => obtain ⟨A, c, h1, _⟩ := h; exact ⟨A, c, h1⟩
 | own => exact aux _ h
 | ownf => exact aux _ h
 | io n c => exact aux _ h.1
 | kz A c => exact ⟨A, c, h.2⟩
 | junk => cases hf
 | pr => cases hf
theorem get_app : ∀ (p q : Path) {s : Sh} {f : Fl} {x : s.ty} {s1 : Sh} {f1 : Fl} {x1 : s1.ty}, get s f x p = some ⟨s1, f1, x1⟩ → get s f x (p ++ q) = get s1 f1 x1 q := by
 intro p q
 induction p with
 | nil =>
  intro s f x s1 f1 x1 h
  rw [get_nil] at h
  cases Option.some.inj h
  rfl
 | cons st p ih =>
  intro s f x s1 f1 x1 h
  cases s with
  | pr a b => cases st with
   | l => exact ih h
   | r => exact ih h
   | el i => simp [get] at h
  | sl e s0 => cases st with
   | el i => cases f <;> simp only [get, List.cons_append] at h ⊢ <;> first | exact ih h | cases h
   | l => simp [get] at h
   | r => simp [get] at h
  | unit => simp [get] at h
  | int _ => simp [get] at h
  | bool => simp [get] at h
  | str => simp [get] at h
theorem Ok_app : ∀ (p q : Path) {s : Sh} {f : Fl} {x : s.ty} {s1 : Sh} {f1 : Fl} {x1 : s1.ty}, get s f x p = some ⟨s1, f1, x1⟩ → Ok s f x p → Ok s1 f1 x1 q → Ok s f x (p ++ q) := by
 intro p q
 induction p with
 | nil =>
  intro s f x s1 f1 x1 h _ k
  rw [get_nil] at h
  cases Option.some.inj h
  exact k
 | cons st p ih =>
  intro s f x s1 f1 x1 h h2 k
  cases s with
  | pr a b => cases st with
   | l => exact ih h h2 k
   | r => exact ih h h2 k
   | el i => simp [get] at h
  | sl e s0 => cases st with
   | el i =>
    obtain ⟨e1, e2, e3⟩ := h2
    refine ⟨e1, e2, ?_⟩
    rcases e1 with rfl | rfl | ⟨n0, c0, rfl⟩
    ·exact ih h e3 k
    ·exact ih h e3 k
    ·exact ih h e3 k
   | l => simp [get] at h
   | r => simp [get] at h
  | unit => simp [get] at h
  | int _ => simp [get] at h
  | bool => simp [get] at h
  | str => simp [get] at h
theorem sub_app {w : World} : ∀ (p q : Path) {s : Sh} {f : Fl} {x : s.ty} {s1 : Sh} {f1 : Fl} {x1 : s1.ty} {cs : List Value} {ad : Option Addr} {cs1 : List Value} {ad1 : Option Addr}, get s f x p = some ⟨s1, f1, x1⟩ → sub w s cs ad p = some (cs1, ad1) → sub w s cs ad (p ++ q) = sub w s1 cs1 ad1 q := by
 intro p q
 induction p with
 | nil =>
  intro s f x s1 f1 x1 cs ad cs1 ad1 h k
  rw [get_nil] at h
  cases Option.some.inj h
  rw [sub_nil] at k
  obtain ⟨rfl, rfl⟩ := Prod.mk.inj (Option.some.inj k)
  rfl
 | cons st p ih =>
  intro s f x s1 f1 x1 cs ad cs1 ad1 h k
  cases s with
  | pr a b => cases st with
   | l => exact ih h k
   | r => exact ih h k
   | el i => simp [get] at h
  | sl e s0 => cases st with
   | el i =>
    simp only [sub, List.cons_append] at k ⊢
    split at k
    ·cases f <;> simp only [get] at h <;> first | exact ih h k | cases h
    ·cases k
   | l => simp [get] at h
   | r => simp [get] at h
  | unit => simp [get] at h
  | int _ => simp [get] at h
  | bool => simp [get] at h
  | str => simp [get] at h
theorem Place.app {L : Lay} {st : St} {w : World} {g : Nat} {p q : Path} {s1 : Sh} {cs1 : List Value} {ad1 : Option Addr} (h : Place L st w g p s1 cs1 ad1) {f1 : Fl} {x1 : s1.ty} (hl : look st g p = some ⟨s1, f1, x1⟩)
  (hk : Ok s1 f1 x1 q) {s2 : Sh} {f2 : Fl} {x2 : s2.ty} (hg : get s1 f1 x1 q = some ⟨s2, f2, x2⟩) {cs2 : List Value} {ad2 : Option Addr} (hs : sub w s1 cs1 ad1 q = some (cs2, ad2)) : Place L st w g (p ++ q) s2 cs2 ad2 := by
 obtain ⟨k, s, f, x, e1, e2, e3, e4⟩ := h
 unfold look at hl
 rw [e1] at hl
 exact ⟨k, s, f, x, e1, Ok_app p q hl e2 hk, ⟨f2, x2, by rw [get_app p q hl]; exact hg⟩, by rw [sub_app p q hl e4]; exact hs⟩
theorem Place.shape {L : Lay} {st : St} {w : World} {g : Nat} {p : Path} {s1 : Sh} {cs1 : List Value} {ad1 : Option Addr} (h : Place L st w g p s1 cs1 ad1) {s : Sh} {f : Fl} {x : s.ty} (hl : look st g p = some ⟨s, f, x⟩) : s = s1 := by
 obtain ⟨k0, s0, f0, x0, e1, e2, ⟨f1, x1, e3⟩, e4⟩ := h
 unfold look at hl
 rw [e1] at hl
 simp only at hl
 rw [e3] at hl
 exact (congrArg Sigma.fst (Option.some.inj hl)).symm
/-- a field's place in a struct's cells -/
theorem field_at : ∀ (n m : Nat) {s : Sh} {o : Nat} {s1 : Sh}, fieldAt s n m = some (o, s1) → ∀ (f : Fl) (x : s.ty), Ok s f x (fpath n m) ∧ (∃ f1 x1, get s f x (fpath n m) = some ⟨s1, f1, x1⟩) ∧ o + s1.size ≤ s.size ∧
  (∀ (w : World) (cs : List Value) (ad : Option Addr), cs.length = s.size → sub w s cs ad (fpath n m) = some ((cs.drop o).take s1.size, ad.map (·.add o))) ∧
  (∀ (w : World) (Z : Nat → Prop) (cs : List Value) (x1 : s1.ty), Rep w Z s .fz x cs (fun _ => False) → (∃ f1, get s .fz x (fpath n m) = some ⟨s1, f1, x1⟩) → Rep w Z s1 .fz x1 ((cs.drop o).take s1.size) (fun _ => False)) := by
 intro n
 induction n with
 | zero =>
  intro m s o s1 h f x
  have last : ∀ s : Sh, ∀ x : s.ty, fieldAt s 0 1 = some (o, s1) → Ok s f x [] ∧ (∃ f1 x1, get s f x [] = some ⟨s1, f1, x1⟩) ∧ o + s1.size ≤ s.size ∧
    (∀ (w : World) (cs : List Value) (ad : Option Addr), cs.length = s.size → sub w s cs ad [] = some ((cs.drop o).take s1.size, ad.map (·.add o))) ∧
    (∀ (w : World) (Z : Nat → Prop) (cs : List Value) (x1 : s1.ty), Rep w Z s .fz x cs (fun _ => False) → (∃ f1, get s .fz x [] = some ⟨s1, f1, x1⟩) → Rep w Z s1 .fz x1 ((cs.drop o).take s1.size) (fun _ => False)) := by
   intro s x h
   have e : (0, s) = (o, s1) := by cases s <;> exact Option.some.inj h
   obtain ⟨rfl, rfl⟩ := Prod.mk.inj e
   refine ⟨by cases s <;> trivial, ⟨f, x, get_nil _ _ _⟩, by omega, fun w cs ad hl => ?_, fun w Z cs x1 hR hg => ?_⟩
   ·rw [sub_nil]
    have : ad.map (·.add 0) = ad := by cases ad <;> simp [addr_zero]
    rw [this, List.drop_zero, ← hl, List.take_length]
   ·obtain ⟨f1, hg⟩ := hg
    rw [get_nil] at hg
    cases Option.some.inj hg
    rw [List.drop_zero, ← hR.len, List.take_length]; exact hR
  match m with
  | 0 => cases s <;> simp [fieldAt] at h
  | 1 => exact last s x h
  | m + 2 =>
   cases s with
   | pr a b =>
    simp only [fieldAt, Option.some.injEq, Prod.mk.injEq] at h
    obtain ⟨rfl, rfl⟩ := h
    have hfp : fpath 0 (m + 2) = [.l] := by simp [fpath]
    rw [hfp]
    refine ⟨by show Ok a f.l x.1 []; cases a <;> trivial, ⟨f.l, x.1, get_nil _ _ _⟩, by simp [Sh.size], fun w cs ad hl => ?_, fun w Z cs x1 hR hg => ?_⟩
    ·have : ad.map (·.add 0) = ad := by cases ad <;> simp [addr_zero]
     show sub w a (cs.take a.size) ad [] = _
     rw [sub_nil, this, List.drop_zero]
    ·obtain ⟨f1, hg⟩ := hg
     have hg : get a Fl.fz x.1 [] = some ⟨a, f1, x1⟩ := hg
     rw [get_nil] at hg
     cases Option.some.inj hg
     obtain ⟨c1, c2, B1, B2, rfl, k1, k2, k3, k4, k5⟩ := hR
     rw [List.drop_zero, List.take_left' k4.len]
     exact k4.mono k1
   | unit => simp [fieldAt] at h
   | int _ => simp [fieldAt] at h
   | bool => simp [fieldAt] at h
   | str => simp [fieldAt] at h
   | sl _ _ => simp [fieldAt] at h
 | succ n ih =>
  intro m s o s1 h f x
  match m with
  | 0 => cases s <;> simp [fieldAt] at h
  | 1 => cases s <;> simp [fieldAt] at h
  | m + 2 =>
   cases s with
   | pr a b =>
    simp only [fieldAt, Option.map_eq_some_iff] at h
    obtain ⟨⟨o', s'⟩, h1, h2⟩ := h
    obtain ⟨rfl, rfl⟩ := Prod.mk.inj h2
    obtain ⟨i1, i2, i3, i4, i5⟩ := ih (m + 1) h1 f.r x.2
    refine ⟨i1, i2, by simp only [Sh.size]; omega, fun w cs ad hl => ?_, fun w Z cs x1 hR hg => ?_⟩
    ·show sub w b (cs.drop a.size) (ad.map (·.add a.size)) (fpath n (m + 1)) = _
     rw [i4 w _ _ (by simp only [Sh.size] at hl; simp; omega), List.drop_drop]
     congr 2
     cases ad <;> simp [add_add]
    ·obtain ⟨c1, c2, B1, B2, rfl, k1, k2, k3, k4, k5⟩ := hR
     have := i5 w Z c2 x1 (k5.mono k2) hg
     rw [← List.drop_drop, List.drop_left' k4.len]
     exact this
   | unit => simp [fieldAt] at h
   | int _ => simp [fieldAt] at h
   | bool => simp [fieldAt] at h
   | str => simp [fieldAt] at h
   | sl _ _ => simp [fieldAt] at h
section
variable {P : Program} {o : Oper} {L L1 : Lay} {st st1 : St} {a : Act} {w w' : World} {R : Nat → Prop} {T : List (Nat × TI)} {rt : St} {out : Out}
theorem caps_rep (h : Rel L st a w R) : ∀ (xs : List Operand) (cs : List Cap), capsOf st xs = some cs → xs.length = cs.length ∧ ∀ (i : Nat) (c : Cap) (u : Value), cs[i]? = some c → (xs.map a.eval)[i]? = some u → CapRep L st w c u
 | [], cs, hc => by
  obtain rfl := Option.some.inj hc
  exact ⟨rfl, fun i c u hi => by simp at hi⟩
 | x :: r, cs, hc => by
  simp only [capsOf] at hc
  split at hc
  ·rename_i c cs' h1 h2
   obtain rfl := Option.some.inj hc
   obtain ⟨q1, q2⟩ := caps_rep h r cs' h2
   refine ⟨by simp [q1], fun i c' u hi hu => ?_⟩
   cases i with
   | zero =>
    simp only [List.getElem?_cons_zero, Option.some.injEq, List.map_cons] at hi hu
    subst hi; subst hu
    have hv := h.opnd x
    unfold cOf at h1
    split at h1
    ·rename_i g p hx
     obtain rfl := Option.some.inj h1
     rw [hx] at hv; exact hv
    ·rename_i s y hx
     obtain rfl := Option.some.inj h1
     rw [hx] at hv; exact hv
    ·cases h1
   | succ i =>
    simp only [List.getElem?_cons_succ, List.map_cons] at hi hu
    exact q2 i c' u hi hu
  ·cases hc
theorem pop_makeFunc (h : Rel L st a w Free) {f : FuncId} {first caps : Array Operand} (ho : o.op = .makeFunc (.func f) first caps) (hp : pop T rt st o = some out) : out.c = true ∧ Goes P o a w L out.st out.pv ∧ (out.cl = true → out.st = st) := by
 unfold pop at hp
 rw [ho] at hp
 simp only at hp
 split at hp
 ·rename_i he
  split at hp
  ·rename_i cs hcs
   obtain rfl := (Option.some.inj hp)
   obtain ⟨q1, q2⟩ := caps_rep h _ _ hcs
   have he' : first = #[] := by simpa [Array.isEmpty_iff] using he
   subst he'
   refine ⟨rfl, goes_o (v := .func (.func f) #[] (caps.toList.map a.eval).toArray) ?_ (Stp.refl _ _) h rfl ⟨_, rfl, by simpa using q1, q2⟩, fun _ => rfl⟩
   have : (caps.toList.map a.eval).toArray = caps.map a.eval := by apply Array.ext'; simp
   rw [this]
   simp [execOp, ho, Instr.makeFunc]
  ·cases hp
 ·cases hp
theorem run_slice_gen {t e : TypeId} {n : Nat} (ht : P.underlying t = some (.slice e)) (hz : ∀ w, (sizeOf e).run P w = .ok n w) (A : Option Addr) (len cap : Nat) (lo hi : Option Value) (l h : Nat) (hl : (lo = none ∧ l = 0) ∨ ∃ k, lo = some (.int k (l : Int))) (hh : (hi = none ∧ h = len) ∨ ∃ k, hi = some (.int k (h : Int))) (h1 : l ≤ h) (h2 : h ≤ cap) :
  (Instr.sliceAt t (.slice A len cap) lo hi none).run P w = .ok (sliced A l h cap n) w := by
 rcases hl with ⟨rfl, rfl⟩ | ⟨k, rfl⟩ <;> rcases hh with ⟨rfl, rfl⟩ | ⟨k', rfl⟩ <;>
  simp [Instr.sliceAt, Instr.slice, run_underlying ht, Instr.sliceBounds, hz, sliced, run_sliceBound, h1, h2]
theorem run_sliceS_gen {t : TypeId} (ht : P.underlying t = some .string) (s : ByteArray) (lo hi : Option Value) (l h : Nat) (hl : (lo = none ∧ l = 0) ∨ ∃ k, lo = some (.int k (l : Int))) (hh : (hi = none ∧ h = s.size) ∨ ∃ k, hi = some (.int k (h : Int))) (h1 : l ≤ h) (h2 : h ≤ s.size) :
  (Instr.sliceAt t (.string s) lo hi none).run P w = .ok (.string (s.extract l h)) w := by
 rcases hl with ⟨rfl, rfl⟩ | ⟨k, rfl⟩ <;> rcases hh with ⟨rfl, rfl⟩ | ⟨k', rfl⟩ <;>
  simp [Instr.sliceAt, Instr.slice, run_underlying ht, Instr.sliceBounds, run_sliceBound, h1, h2]
theorem bound_val (h : Rel L st a w R) {d : Int} {y : Option Operand} {n : Int} (hb : bound st d y = some n) : (y.map a.eval = none ∧ n = d) ∨ ∃ k, y.map a.eval = some (.int k n) := by
 cases y with
 | none => exact .inl ⟨rfl, (Option.some.inj hb).symm⟩
 | some y =>
  simp only [bound] at hb
  split at hb
  ·rename_i k m hy
   obtain rfl := Option.some.inj hb
   have hv := h.opnd y
   rw [hy] at hv
   exact .inr ⟨k, by simp [hv.int]⟩
  ·cases hb
theorem run_size {t : TypeId} {ti : TypeInfo} (h : P.info? t = some ti) (w : World) : (sizeOf t).run P w = .ok ti.size w := by simp [sizeOf, typeInfo, h]
theorem OwnR.take {α : Type} {w : World} {e : TypeId} {n : Nat} {R : α → List Value → (Nat → Prop) → Prop} {z : α} {xs : List α} {v : Value} {B : Nat → Prop} (h : OwnR w e n R z xs [v] B) : ∃ A c, v = .slice A xs.length c ∧ xs.length ≤ c ∧ ∀ b, b ≤ xs.length → OwnR w e n R z (xs.take b) [.slice A b c] B := by
 rcases h with ⟨A, hA, rfl⟩ | ⟨g, cap, cur, rows, Bs, hA, h2, h3, h4, h5, h6, h7, h8⟩
 ·have hA : v = .slice A 0 0 := by simpa using hA
  refine ⟨A, 0, hA, Nat.le_refl _, fun b hb => .inl ⟨A, ?_, by simp⟩⟩
  have : b = 0 := by simpa using hb
  rw [this]
 ·have hA : v = .slice (some ⟨g, 0, none⟩) xs.length cap := by simpa using hA
  refine ⟨_, cap, hA, h3, fun b hb => .inr ⟨g, cap, cur, rows, Bs, by rw [List.length_take, Nat.min_eq_left hb], h2, by rw [List.length_take]; omega, h4, h5, h6, fun i hi => ?_, fun i j b' hi hj => ?_⟩⟩
  ·rw [List.length_take] at hi
   obtain ⟨q1, q2, q3, q4⟩ := h7 i (by omega)
   refine ⟨q1, q2, q3, ?_⟩
   rw [List.getD_eq_getElem?_getD, List.getElem?_take_of_lt (by omega), ← List.getD_eq_getElem?_getD]
   exact q4
  ·rw [List.length_take] at hi hj
   exact h8 i j b' (by omega) (by omega)
theorem pop_slice (hT : TabOk P T) (h : Rel L st a w Free) {t : Nat} {x : Operand} {lo hi : Option Operand} (ho : o.op = .slice t x lo hi none) (hp : pop T rt st o = some out) (hc : out.c = true) : Goes P o a w L out.st out.pv ∧ (out.cl = true → out.st = st) := by
 unfold pop at hp
 rw [ho] at hp
 simp only at hp
 have hv := h.opnd x
 split at hp
 ·rename_i e s b n fs cm hi0
  obtain ⟨hu, ti, z, i1, i2, i3, i4, i5⟩ := (hT t _ hi0).sl e s rfl rfl
  have hz : ∀ w, (sizeOf e).run P w = .ok s.size w := fun w => by rw [run_size i1, i2]
  split at hp
  ·rename_i s' xs hx
   split at hp
   ·rename_i ys hxs
    split at hp
    ·rename_i l r hl hr
     obtain rfl := (Option.some.inj hp)
     refine ⟨?_, fun _ => rfl⟩
     obtain ⟨rfl, hxs⟩ := castTo_some hxs
     simp only at hxs
     subst hxs
     rw [hx] at hv
     obtain ⟨cs, m1, A, c, rfl, q1, q1', q2⟩ := hv
     have hval : a.eval x = .slice A xs.length c := by simpa [mkV] using m1.symm
     simp only [decide_eq_true_eq] at hc
     obtain ⟨c1, c2, c3⟩ := hc
     have el : ((l.toNat : Nat) : Int) = l := Int.toNat_of_nonneg c1
     have er : ((r.toNat : Nat) : Int) = r := Int.toNat_of_nonneg (by omega)
     have hbl := bound_val h hl
     have hbr := bound_val h hr
     have hrun := run_slice_gen (P := P) (w := w) hu hz A xs.length c (lo.map a.eval) (hi.map a.eval) l.toNat r.toNat (by rw [el]; exact hbl.imp (fun q => ⟨q.1, by omega⟩) id) (by rw [er]; exact hbr.imp (fun q => ⟨q.1, by omega⟩) id) (by omega) (by omega)
     refine goes_o (v := sliced A l.toNat r.toNat c s.size) ?_ (Stp.refl _ _) h rfl ⟨[sliced A l.toNat r.toNat c s.size], rfl, ?_⟩
     ·simp [execOp, ho, hval, hrun]
     ·have hlen : ((xs.take r.toNat).drop l.toNat).length = r.toNat - l.toNat := by simp; omega
      refine ⟨if c = l.toNat then A else A.map (·.add (l.toNat * s.size)), c - l.toNat, by rw [hlen]; rfl, by rw [hlen]; omega, by rw [hlen]; omega, fun hpos => ?_⟩
      rw [hlen] at hpos
      obtain ⟨ad, e1, e2, e3⟩ := q2 (by omega)
      refine ⟨ad.add (l.toNat * s.size), by rw [if_neg (by omega), e1]; rfl, by rw [add_block]; exact e2, fun i hi => ?_⟩
      rw [hlen] at hi
      obtain ⟨c', k1, k2, k3⟩ := e3 (l.toNat + i) (by omega)
      refine ⟨c', k1, fun j hj => ?_, ?_⟩
      ·rw [add_add, ← k2 j hj]
       congr 2
       rw [Nat.add_mul]; omega
      ·have : ((xs.take r.toNat).drop l.toNat).getD i s.zero = xs.getD (l.toNat + i) s.zero := by
        rw [List.getD_eq_getElem?_getD, List.getD_eq_getElem?_getD, List.getElem?_drop, List.getElem?_take_of_lt (by omega)]
       rw [this]; exact k3
    ·cases hp
   ·cases hp
  ·rename_i hx
   split at hp
   ·rename_i l r hl hr
    obtain rfl := (Option.some.inj hp)
    refine ⟨?_, fun _ => rfl⟩
    rw [hx] at hv
    obtain ⟨A, hval⟩ := hv
    simp only [decide_eq_true_eq] at hc
    obtain ⟨c1, c2, c3⟩ := hc
    have hl0 : l = 0 := by omega
    have hr0 : r = 0 := by omega
    subst hl0; subst hr0
    have hrun := run_slice_gen (P := P) (w := w) hu hz A 0 0 (lo.map a.eval) (hi.map a.eval) 0 0 ((bound_val h hl).imp (fun q => ⟨q.1, rfl⟩) id) ((bound_val h hr).imp (fun q => ⟨q.1, rfl⟩) id) (by omega) (by omega)
    refine goes_o (v := sliced A 0 0 0 s.size) ?_ (Stp.refl _ _) h rfl ⟨A, rfl⟩
    simp [execOp, ho, hval, hrun]
   ·cases hp
  ·rename_i g p hx
   split at hp
   ·cases hp
   ·split at hp
    ·rename_i s' f xs st' ht
     split at hp
     ·rename_i ys hys
      split at hp
      ·rename_i r hr
       split at hp
       ·rename_i hf
        obtain rfl := (Option.some.inj hp)
        refine ⟨?_, fun e => by cases e⟩
        obtain ⟨rfl, hxs⟩ := castTo_some hys
        simp only at hxs
        subst hxs
        rw [hx] at hv
        obtain ⟨s1, cs1, ad1, hP, hm, hsl⟩ := hv
        obtain ⟨L', B1, g1, g2, g3, g4, g5⟩ := h.take ht hP
        have hcs : cs1 = [a.eval x] := by simpa [mkV] using hm
        subst hcs
        simp only [decide_eq_true_eq] at hc
        obtain ⟨c2, c3⟩ := hc
        have er : ((r.toNat : Nat) : Int) = r := Int.toNat_of_nonneg c2
        have hbr := bound_val h hr
        have hfs : ∃ f0, OwnR w e s.size (fun x c B' => Rep w L.Z s f0 x c B') s.zero xs [a.eval x] B1 ∧ ∀ (ys : List s.ty) (cs : List Value), OwnR w e s.size (fun x c B' => Rep w L.Z s f0 x c B') s.zero ys cs B1 → Rep w L.Z (.sl e s) f.unio ys cs B1 := by
         rcases wr_spec hf with rfl | rfl | ⟨n0, c0, rfl⟩
         ·exact ⟨.own, g4, fun _ _ h => h⟩
         ·exact ⟨.fz, g4, fun _ _ h => h⟩
         ·exact ⟨.own, g4.1, fun _ _ h => h⟩
        obtain ⟨f0, k1, k2⟩ := hfs
        obtain ⟨A, c, hval, hcap, k3⟩ := k1.take
        have hrun := run_slice_gen (P := P) (w := w) hu hz A xs.length c none (hi.map a.eval) 0 r.toNat (.inl ⟨rfl, rfl⟩) (by rw [er]; exact hbr.imp (fun q => ⟨q.1, by omega⟩) id) (by omega) (by omega)
        have hsl0 : sliced A 0 r.toNat c s.size = .slice A r.toNat c := by
         unfold sliced
         have : A.map (·.add (0 * s.size)) = A := by cases A <;> simp [Addr.add]
         rw [this]; simp
        refine goes_r (v := .slice A r.toNat c) (cs := [.slice A r.toNat c]) (ad := none) (B := B1) (Fd := B1) ?_ (Stp.sub g1 w) g2 ⟨rfl, fun _ => rfl, rfl⟩ (fun _ h => h) (fun A hA => by cases hA) ?_ (fun b hb => ⟨(g2.rlt b (.inr hb)).1, (g2.rlt b (.inr hb)).2, fun t ht => g2.rdj t b ht (.inr hb)⟩) (fun b hb => .inl (g3 b hb).2)
        ·rw [hsl0] at hrun
         simp [execOp, ho, hval, hrun]
        ·rw [g1.Z]
         exact k2 _ _ (k3 r.toNat (by omega))
       ·cases hp
      ·cases hp
     ·cases hp
    ·cases hp
  ·cases hp
 ·rename_i b n fs cm hi0
  have hu := (hT t _ hi0).str' rfl rfl
  split at hp
  ·rename_i xs hx
   split at hp
   ·rename_i l r hl hr
    obtain rfl := (Option.some.inj hp)
    refine ⟨?_, fun _ => rfl⟩
    rw [hx] at hv
    have hval := hv.str
    simp only [decide_eq_true_eq] at hc
    obtain ⟨c1, c2, c3⟩ := hc
    have el : ((l.toNat : Nat) : Int) = l := Int.toNat_of_nonneg c1
    have er : ((r.toNat : Nat) : Int) = r := Int.toNat_of_nonneg (by omega)
    have hbl := bound_val h hl
    have hbr := bound_val h hr
    have hrun := run_sliceS_gen (P := P) (w := w) hu xs (lo.map a.eval) (hi.map a.eval) l.toNat r.toNat (by rw [el]; exact hbl.imp (fun q => ⟨q.1, by omega⟩) id) (by rw [er]; exact hbr.imp (fun q => ⟨q.1, by omega⟩) id) (by omega) (by omega)
    refine goes_o (v := .string (xs.extract l.toNat r.toNat)) ?_ (Stp.refl _ _) h rfl (ORep.mkStr _)
    simp [execOp, ho, hval, hrun]
   ·cases hp
  ·cases hp
 ·cases hp
end
end Go.Proofs.YtoeblmcibheldaaGreatDoor.V
end
section
/- The operations, one by one: fourth part. No condition. -/
namespace Go.Proofs.YtoeblmcibheldaaGreatDoor.V
open Go Go.RowKit
theorem cells_field {cs : List Value} {o m k : Nat} (h : o + m ≤ k) (hl : cs.length = k) : ((cs.drop o).take m).length = m := by simp; omega
theorem getElem?_field {cs : List Value} {o m j : Nat} (hj : j < m) : ((cs.drop o).take m)[j]? = cs[o + j]? := by
 rw [List.getElem?_take_of_lt hj, List.getElem?_drop]
theorem tup_at {w : World} : ∀ (n : Nat) (aggs : List Bool) {s : Sh} {g : Bool} {f : Fl} {x : s.ty} {s1 : Sh} {f1 : Fl} {x1 : s1.ty} {cs : List Value}, aggs[n]? = some g → get s f x (fpath n aggs.length) = some ⟨s1, f1, x1⟩ → tupOk aggs s = true → cs.length = s.size →
  ∃ c1, sub w s cs none (fpath n aggs.length) = some (c1, none) ∧ (tupV aggs s cs)[n]? = some (aggV g c1) ∧ Ok s f x (fpath n aggs.length) ∧ (g = false → s1.isSl = true ∨ s1.plain = true ∧ s1.size = 1) ∧ c1.length = s1.size := by
 intro n
 induction n with
 | zero =>
  intro aggs s g f x s1 f1 x1 cs hg hget hok hl
  match aggs with
  | [] => simp at hg
  | [g0] =>
   obtain rfl := by simpa using hg
   have hfp : fpath 0 ([g0] : List Bool).length = [] := rfl
   rw [hfp] at hget ⊢
   rw [get_nil] at hget
   cases Option.some.inj hget
   refine ⟨cs, sub_nil _ _ _ _, rfl, by cases s <;> trivial, fun e => ?_, hl⟩
   subst e
   simpa [tupOk] using hok
  | g0 :: h0 :: r =>
   obtain rfl := by simpa using hg
   have hfp : fpath 0 (g0 :: h0 :: r : List Bool).length = [.l] := by simp [fpath]
   rw [hfp] at hget ⊢
   cases s with
   | pr a b =>
    have hget : get a f.l x.1 [] = some ⟨s1, f1, x1⟩ := hget
    rw [get_nil] at hget
    cases Option.some.inj hget
    refine ⟨cs.take s1.size, by show sub w s1 _ none [] = _; rw [sub_nil], rfl, by show Ok s1 _ _ []; cases s1 <;> trivial, fun e => ?_, by simp only [Sh.size] at hl; simp; omega⟩
    subst e
    simp only [tupOk, Bool.and_eq_true] at hok
    simpa using hok.1
   | unit => simp [tupOk] at hok
   | int _ => simp [tupOk] at hok
   | bool => simp [tupOk] at hok
   | str => simp [tupOk] at hok
   | sl _ _ => simp [tupOk] at hok
 | succ n ih =>
  intro aggs s g f x s1 f1 x1 cs hg hget hok hl
  match aggs with
  | [] => simp at hg
  | [g0] => simp at hg
  | g0 :: h0 :: r =>
   cases s with
   | pr a b =>
    have hg' : (h0 :: r)[n]? = some g := by simpa using hg
    simp only [tupOk, Bool.and_eq_true] at hok
    obtain ⟨c1, k1, k2, k3, k4, k5⟩ := ih (h0 :: r) (f := f.r) (cs := cs.drop a.size) hg' hget hok.2 (by simp only [Sh.size] at hl; simp; omega)
    exact ⟨c1, k1, by simpa [tupV] using k2, k3, k4, k5⟩
   | unit => simp [tupOk] at hok
   | int _ => simp [tupOk] at hok
   | bool => simp [tupOk] at hok
   | str => simp [tupOk] at hok
   | sl _ _ => simp [tupOk] at hok
section
variable {P : Program} {o : Oper} {L L1 : Lay} {st st1 : St} {a : Act} {w w' : World} {R : Nat → Prop} {T : List (Nat × TI)} {rt : St} {out : Out}
theorem pop_fieldAddr (hT : TabOk P T) (h : Rel L st a w Free) (hrt : ∀ g k s f x, rt.at g = .root k s f x → st.at g = .root k s f x) {t n : Nat} {x : Operand} (ho : o.op = .fieldAddr t x n) (hp : pop T rt st o = some out) : out.c = true ∧ Goes P o a w L out.st out.pv ∧ (out.cl = true → out.st = st) := by
 unfold pop at hp
 rw [ho] at hp
 simp only at hp
 have hv := h.opnd x
 split at hp
 ·rename_i i hi
  have hTt := hT t i hi
  split at hp
  ·rename_i g p hx
   rw [hx] at hv
   split at hp
   ·rename_i s f y hl
    split at hp
    ·rename_i hc
     obtain ⟨hs, hn, hag⟩ := hc
     obtain rfl := (Option.some.inj hp)
     refine ⟨rfl, ?_, fun _ => rfl⟩
     obtain ⟨s1, cs1, A, q1, q2⟩ := hv
     have hl' := look_rt hrt hl
     obtain rfl := q1.shape hl'
     subst hs
     obtain ⟨fs, u1, u2, u3⟩ := hTt.str hag (by omega)
     obtain ⟨fd, agg1, s1, of, fi, v1, v2, v3, v4, v5, v6, v7, v8, v9, v10⟩ := (u3 n hn).ex
     obtain ⟨k1, ⟨f2, x2, k2⟩, k3, k4, k5⟩ := field_at n i.nf v3 f y
     obtain ⟨_, _, B1, _, m4⟩ := h.place q1 hl'
     refine goes_o (v := .pointer (some (A.add of))) ?_ (Stp.refl _ _) h rfl ⟨s1, (cs1.drop of).take s1.size, A.add of, q1.app hl' k1 k2 (k4 w cs1 (some A) m4.len), rfl⟩
     have hne : ¬ s1.size = 0 := by omega
     simp [execOp, ho, Instr.fieldAt, run_underlying u1, v1, Instr.sureAddr, q2, fieldPlace, run_size v5, v6, hne, v4]
    ·cases hp
   ·cases hp
  ·rename_i s y0 hx
   rw [hx] at hv
   split at hp
   ·rename_i y hy
    split at hp
    ·rename_i s' f' y' hg
     split at hp
     ·rename_i hc
      obtain ⟨hn, hag⟩ := hc
      obtain rfl := (Option.some.inj hp)
      refine ⟨rfl, ?_, fun _ => rfl⟩
      obtain ⟨rfl, hy⟩ := castTo_some hy
      simp only at hy
      subst hy
      obtain ⟨ad, cs, q1, q2, q3, q4, q5⟩ := hv
      obtain ⟨fs, u1, u2, u3⟩ := hTt.str hag (by omega)
      obtain ⟨fd, agg1, s1, of, fi, v1, v2, v3, v4, v5, v6, v7, v8, v9, v10⟩ := (u3 n hn).ex
      obtain ⟨k1, ⟨f2, x2, k2⟩, k3, k4, k5⟩ := field_at n i.nf v3 .fz y0
      have e1 := k2.symm.trans hg
      obtain rfl : s1 = s' := congrArg Sigma.fst (Option.some.inj e1)
      refine goes_o (v := .pointer (some (ad.add of))) ?_ (Stp.refl _ _) h rfl ⟨ad.add of, (cs.drop of).take s1.size, rfl, cells_field k3 q2, by rw [add_block]; exact q3, fun j hj => ?_, k5 w L.Z cs y' q5 ⟨f', hg⟩⟩
      ·have hne : ¬ s1.size = 0 := by omega
       simp [execOp, ho, Instr.fieldAt, run_underlying u1, v1, Instr.sureAddr, q1, fieldPlace, run_size v5, v6, hne, v4]
      ·rw [add_add, getElem?_field hj]
       exact q4 _ (by omega)
     ·cases hp
    ·cases hp
   ·cases hp
  ·cases hp
 ·cases hp
theorem pop_field (hT : TabOk P T) (h : Rel L st a w Free) (hrt : ∀ g k s f x, rt.at g = .root k s f x → st.at g = .root k s f x) {t n : Nat} {x : Operand} (ho : o.op = .field t x n) (hp : pop T rt st o = some out) : out.c = true ∧ Goes P o a w L out.st out.pv ∧ (out.cl = true → out.st = st) := by
 unfold pop at hp
 rw [ho] at hp
 simp only at hp
 have hv := h.opnd x
 split at hp
 ·rename_i i hi
  have hTt := hT t i hi
  split at hp
  ·rename_i g p agg s2 hx hfs
   rw [hx] at hv
   split at hp
   ·rename_i s f y hl
    split at hp
    ·rename_i hss
     subst hss
     split at hp
     ·rename_i s' f' y' hg
      split at hp
      ·rename_i hc
       obtain ⟨hss, hn, hag, hfin⟩ := hc
       obtain rfl := (Option.some.inj hp)
       refine ⟨rfl, ?_, fun _ => rfl⟩
       subst hss
       obtain ⟨s1, cs1, ad1, q1, q2, _⟩ := hv
       have hl' := look_rt hrt hl
       obtain rfl := q1.shape hl'
       have q2 : a.eval x = .agg cs1.toArray := by simpa [mkV] using q2
       obtain ⟨fs, u1, u2, u3⟩ := hTt.str hag (by omega)
       obtain ⟨fd, agg1, s1, of, fi, v1, v2, v3, v4, v5, v6, v7, v8, v9, v10⟩ := (u3 n hn).ex
       rw [hfs] at v2
       obtain ⟨rfl, rfl⟩ := Prod.mk.inj (Option.some.inj v2)
       obtain ⟨k1, ⟨f2, x2, k2⟩, k3, k4, k5⟩ := field_at n i.nf v3 f y
       obtain ⟨_, _, B1, _, m4⟩ := h.place q1 hl'
       have hP := q1.app hl' k1 k2 (k4 w cs1 ad1 m4.len)
       have hl2 : look st g (p ++ fpath n i.nf) = some ⟨s', f', y'⟩ := by
        unfold look at hl' ⊢
        split at hl'
        ·rw [get_app _ _ hl']; exact hg
        ·cases hl'
       obtain ⟨_, _, B2, _, m5⟩ := h.place hP hl2
       have hlen := cells_field k3 m4.len
       have hrun : ∃ u, (execOp a.eval o).run P w = .ok (.value u) w ∧ mkV agg ((cs1.drop of).take s'.size) u := by
        cases hagg : agg with
        | true =>
         have e : cs1.toArray.extract of (of + s'.size) = ((cs1.drop of).take s'.size).toArray := by
          apply Array.ext'
          simp
         exact ⟨.agg ((cs1.drop of).take s'.size).toArray, by simp [execOp, ho, Instr.field, run_underlying u1, v1, q2, asAgg, part, run_isAgg v9, v8, hagg, run_size v5, v6, v4], rfl⟩
        | false =>
         have h1 := v10 hagg
         obtain ⟨u, hu⟩ : ∃ u, (cs1.drop of).take s'.size = [u] := List.length_eq_one_iff.1 (by rw [hlen, h1])
         have e : cs1[of]? = some u := by
          have := getElem?_field (cs := cs1) (o := of) (m := s'.size) (j := 0) (by omega)
          rw [hu] at this
          simpa using this.symm
         exact ⟨u, by simp [execOp, ho, Instr.field, run_underlying u1, v1, q2, asAgg, part, run_isAgg v9, v8, hagg, v4, e], hu⟩
       obtain ⟨u, hrun, hmk⟩ := hrun
       unfold loaded
       by_cases hpl : (s'.plain || Fl.allfz s' f') = true
       ·rw [if_pos hpl]
        refine goes_o hrun (Stp.refl _ _) h rfl ⟨_, hmk, ?_⟩
        simp only [Bool.or_eq_true] at hpl
        rcases hpl with hpl | hpl
        ·exact m5.plain hpl
        ·exact m5.allfz hpl
       ·rw [if_neg hpl]
        refine goes_o hrun (Stp.refl _ _) h rfl ⟨s', _, _, hP, hmk, fun e => ?_⟩
        subst e
        simp only [Bool.or_eq_true, not_or, Bool.not_eq_true] at hpl
        simpa [hpl.1] using hfin
      ·cases hp
     ·cases hp
    ·cases hp
   ·cases hp
  ·rename_i s y0 agg s2 hx hfs
   rw [hx] at hv
   split at hp
   ·rename_i y hy
    split at hp
    ·rename_i s' f' y' hg
     split at hp
     ·rename_i hc
      obtain ⟨hss, hn, hag⟩ := hc
      obtain rfl := (Option.some.inj hp)
      refine ⟨rfl, ?_, fun _ => rfl⟩
      obtain ⟨rfl, hy⟩ := castTo_some hy
      simp only at hy
      subst hy
      subst hss
      obtain ⟨cs, q1, q5⟩ := hv
      have q1 : a.eval x = .agg cs.toArray := by simpa [mkV] using q1
      obtain ⟨fs, u1, u2, u3⟩ := hTt.str hag (by omega)
      obtain ⟨fd, agg1, s1, of, fi, v1, v2, v3, v4, v5, v6, v7, v8, v9, v10⟩ := (u3 n hn).ex
      rw [hfs] at v2
      obtain ⟨rfl, rfl⟩ := Prod.mk.inj (Option.some.inj v2)
      obtain ⟨k1, ⟨f2, x2, k2⟩, k3, k4, k5⟩ := field_at n i.nf v3 .fz y0
      have hR := k5 w L.Z cs y' q5 ⟨f', hg⟩
      have hlen := cells_field k3 q5.len
      cases hagg : agg with
      | true =>
       refine goes_o (v := .agg ((cs.drop of).take s'.size).toArray) ?_ (Stp.refl _ _) h rfl ⟨_, rfl, hR⟩
       have e : cs.toArray.extract of (of + s'.size) = ((cs.drop of).take s'.size).toArray := by
        apply Array.ext'
        simp
       simp [execOp, ho, Instr.field, run_underlying u1, v1, q1, asAgg, part, run_isAgg v9, v8, hagg, run_size v5, v6, v4]
      | false =>
       have h1 := v10 hagg
       obtain ⟨u, hu⟩ : ∃ u, (cs.drop of).take s'.size = [u] := List.length_eq_one_iff.1 (by rw [hlen, h1])
       refine goes_o (v := u) ?_ (Stp.refl _ _) h rfl ⟨[u], rfl, hu ▸ hR⟩
       have e : cs[of]? = some u := by
        have := getElem?_field (cs := cs) (o := of) (m := s'.size) (j := 0) (by omega)
        rw [hu] at this
        simpa using this.symm
       simp [execOp, ho, Instr.field, run_underlying u1, v1, q1, asAgg, part, run_isAgg v9, v8, hagg, v4, e]
     ·cases hp
    ·cases hp
   ·cases hp
  ·cases hp
 ·cases hp
theorem pop_indexAddr (hT : TabOk P T) (h : Rel L st a w Free) (hrt : ∀ g k s f x, rt.at g = .root k s f x → st.at g = .root k s f x) {t : Nat} {x y : Operand} (ho : o.op = .indexAddr t x y) (hp : pop T rt st o = some out) (hc : out.c = true) : Goes P o a w L out.st out.pv ∧ (out.cl = true → out.st = st) := by
 unfold pop at hp
 rw [ho] at hp
 simp only at hp
 have hx0 := h.opnd x
 have hy0 := h.opnd y
 split at hp
 ·rename_i e s b nf fs cm hi0
  obtain ⟨hu, ti, z, i1, i2, i3, i4, i5⟩ := (hT t _ hi0).sl e s rfl rfl
  have hz : ∀ w, (sizeOf e).run P w = .ok s.size w := fun w => by rw [run_size i1, i2]
  split at hp
  ·rename_i k n hy
   rw [hy] at hy0
   have hyv := hy0.int
   split at hp
   ·rename_i s' xs hx
    rw [hx] at hx0
    split at hp
    ·rename_i ys hys
     obtain rfl := (Option.some.inj hp)
     obtain ⟨rfl, hxs⟩ := castTo_some hys
     simp only at hxs
     subst hxs
     refine ⟨?_, fun _ => rfl⟩
     simp only [decide_eq_true_eq] at hc
     obtain ⟨c1, c2⟩ := hc
     have c1 : @LE.le Int _ 0 n := c1
     have c2 : @LT.lt Int _ n xs.length := c2
     obtain ⟨cs, m1, A, c, rfl, q1, q1', q2⟩ := hx0
     have hval : a.eval x = .slice A xs.length c := by simpa [mkV] using m1.symm
     obtain ⟨ad, rfl, e2, e3⟩ := q2 (by omega)
     obtain ⟨c', k1, k2, k3⟩ := e3 n.toNat (by omega)
     refine goes_o (v := .pointer (some (ad.add (n.toNat * s.size)))) ?_ (Stp.refl _ _) h rfl ⟨ad.add (n.toNat * s.size), c', rfl, k1, by rw [add_block]; exact e2, fun j hj => ?_, k3⟩
     ·simp [execOp, ho, hval, hyv, Instr.indexAt, run_underlying hu, asIntOf, c1, c2, hz]
     ·rw [add_add]; exact k2 j hj
    ·cases hp
   ·rename_i g p hx
    rw [hx] at hx0
    split at hp
    ·rename_i s' f xs hl
     split at hp
     ·rename_i hf
      split at hp
      ·rename_i ys hys
       obtain rfl := (Option.some.inj hp)
       obtain ⟨rfl, hxs⟩ := castTo_some hys
       simp only at hxs
       subst hxs
       refine ⟨?_, fun _ => rfl⟩
       simp only [decide_eq_true_eq] at hc
       obtain ⟨c1, c2⟩ := hc
       have c1 : @LE.le Int _ 0 n := c1
       have c2 : @LT.lt Int _ n xs.length := c2
       obtain ⟨s1, cs1, ad1, q1, q2, _⟩ := hx0
       have hl' := look_rt hrt hl
       obtain rfl := q1.shape hl'
       obtain ⟨_, _, B1, _, m4⟩ := h.place q1 hl'
       have hin : n.toNat < xs.length := by omega
       have aux : ∃ gg cap, cs1 = [.slice (some ⟨gg, 0, none⟩) xs.length cap] := by
        have aux' : ∀ f0 : Fl, OwnR w e s.size (fun x c B' => Rep w L.Z s f0 x c B') s.zero xs cs1 B1 → ∃ gg cap, cs1 = [.slice (some ⟨gg, 0, none⟩) xs.length cap] := by
         intro f0 hR
         rcases hR with ⟨A, _, hn⟩ | ⟨gg, cap, cur, rows, Bs, e1, _⟩
         ·subst hn; simp at hin
         ·exact ⟨gg, cap, e1⟩
        rcases wr_spec hf with rfl | rfl | ⟨n0, c0, rfl⟩
        ·exact aux' _ m4
        ·exact aux' _ m4
        ·exact aux' _ m4.1
       obtain ⟨gg, cap, rfl⟩ := aux
       have hval : a.eval x = .slice (some ⟨gg, 0, none⟩) xs.length cap := by simpa [mkV] using q2.symm
       have hgt : ∃ f2, get (Sh.sl e s) f xs [.el n.toNat] = some ⟨s, f2, xs.getD n.toNat s.zero⟩ := by
        rcases wr_spec hf with rfl | rfl | ⟨n0, c0, rfl⟩
        ·exact ⟨Fl.own.el, by show get s _ _ [] = _; rw [get_nil]⟩
        ·exact ⟨Fl.ownf.el, by show get s _ _ [] = _; rw [get_nil]⟩
        ·exact ⟨.own, by show get s _ _ [] = _; rw [get_nil]⟩
       obtain ⟨f2, hgt⟩ := hgt
       refine goes_o (v := .pointer (some ((⟨gg, 0, none⟩ : Addr).add (n.toNat * s.size)))) ?_ (Stp.refl _ _) h rfl ⟨s, rowCells w ((⟨gg, 0, none⟩ : Addr).add (n.toNat * s.size)) s.size, _, q1.app hl' (q := [.el n.toNat]) ⟨wr_spec hf, hin, by cases s <;> trivial⟩ hgt ?_, rfl⟩
       ·simp [execOp, ho, hval, hyv, Instr.indexAt, run_underlying hu, asIntOf, c1, c2, hz]
       ·show sub w s _ _ [] = _
        rw [sub_nil]
      ·cases hp
     ·cases hp
    ·cases hp
   ·obtain rfl := (Option.some.inj hp)
    cases hc
   ·cases hp
  ·cases hp
 ·cases hp
theorem pop_index (hT : TabOk P T) (h : Rel L st a w Free) {t : Nat} {x y : Operand} (ho : o.op = .index t x y) (hp : pop T rt st o = some out) (hc : out.c = true) : Goes P o a w L out.st out.pv ∧ (out.cl = true → out.st = st) := by
 unfold pop at hp
 rw [ho] at hp
 simp only at hp
 have hx0 := h.opnd x
 have hy0 := h.opnd y
 split at hp
 ·rename_i b nf fs cm hi0
  have hu := (hT t _ hi0).str' rfl rfl
  split at hp
  ·rename_i xs k n hx hy
   obtain rfl := (Option.some.inj hp)
   rw [hx] at hx0
   rw [hy] at hy0
   have hxv := hx0.str
   have hyv := hy0.int
   refine ⟨?_, fun _ => rfl⟩
   simp only [decide_eq_true_eq] at hc
   obtain ⟨c1, c2⟩ := hc
   have c1 : @LE.le Int _ 0 n := c1
   have c2 : @LT.lt Int _ n xs.size := c2
   have hlt : n.toNat < xs.size := by omega
   refine goes_o (v := .int .u8 ((xs[n.toNat]'hlt).toNat : Int)) ?_ (Stp.refl _ _) h rfl (by rw [dif_pos hlt]; exact ORep.mkInt _ _)
   simp [execOp, ho, hxv, hyv, Instr.index, run_underlying hu, asIntOf, c1, hlt]
  ·cases hp
 ·cases hp
theorem pop_extract (h : Rel L st a w Free) (hrt : ∀ g k s f x, rt.at g = .root k s f x → st.at g = .root k s f x) {t n : Nat} (ho : o.op = .extract (.tmp t) n) (hp : pop T rt st o = some out) : out.c = true ∧ Goes P o a w L out.st out.pv ∧ (out.cl = true → out.st = st) := by
 unfold pop at hp
 rw [ho] at hp
 simp only at hp
 split at hp
 ·rename_i aggs s f x hr
  split at hp
  ·rename_i g s' f' x' hg hget
   obtain rfl := (Option.some.inj hp)
   refine ⟨rfl, ?_, fun _ => rfl⟩
   have hs := hrt _ _ _ _ _ hr
   obtain ⟨⟨r1, r2, r3⟩, B, b1, b2, b3⟩ := h.root hs
   obtain ⟨c1, k1, k2, k3, k4, k5⟩ := tup_at (w := w) n aggs hg hget r2 b3.len
   have hP : Place L st w t (fpath n aggs.length) s' c1 none := ⟨_, s, f, x, hs, k3, ⟨f', x', hget⟩, by rw [r3]; exact k1⟩
   have hl : look st t (fpath n aggs.length) = some ⟨s', f', x'⟩ := by unfold look; rw [hs]; exact hget
   obtain ⟨_, _, B1, _, m4⟩ := h.place hP hl
   have hm : mkV g c1 (aggV g c1) := by
    cases g with
    | true => rfl
    | false =>
     have h1 : c1.length = 1 := by
      rw [k5]
      rcases k4 rfl with q | q
      ·cases s' <;> first | rfl | cases q
      ·exact q.2
     obtain ⟨u, rfl⟩ := List.length_eq_one_iff.1 h1
     rfl
   have hrun : (execOp a.eval o).run P w = .ok (.value (aggV g c1)) w := by
    have : a.eval (.tmp t) = .tuple (tupV aggs s (L.C t)).toArray := r1
    simp [execOp, ho, Instr.extract, this, k2]
   unfold loaded
   by_cases hpl : (s'.plain || Fl.allfz s' f') = true
   ·rw [if_pos hpl]
    refine goes_o hrun (Stp.refl _ _) h rfl ⟨c1, hm, ?_⟩
    simp only [Bool.or_eq_true] at hpl
    rcases hpl with hpl | hpl
    ·exact m4.plain hpl
    ·exact m4.allfz hpl
   ·rw [if_neg hpl]
    simp only [Bool.or_eq_true, not_or, Bool.not_eq_true] at hpl
    exact goes_o hrun (Stp.refl _ _) h rfl ⟨s', c1, none, hP, hm, fun e => (k4 e).elim id (fun q => by rw [q.1] at hpl; exact absurd hpl.1 (by simp))⟩
  ·cases hp
 ·cases hp
theorem len_of (h : Rel L st a w R) (hrt : ∀ g k s f x, rt.at g = .root k s f x → st.at g = .root k s f x) {pv : PV} {v : Value} (hv : ORep L st w pv v) {n : Nat} (hn : lenOf rt pv = some n) : ∃ A c, v = .slice A n c := by
 unfold lenOf at hn
 split at hn
 ·obtain rfl := Option.some.inj hn
  obtain ⟨A, hv⟩ := hv
  exact ⟨A, 0, hv⟩
 ·rename_i e s x
  obtain rfl := Option.some.inj hn
  obtain ⟨cs, m1, m2⟩ := hv
  obtain ⟨A, c, rfl⟩ := m2.slen rfl
  exact ⟨A, c, by simpa [mkV] using m1.symm⟩
 ·rename_i g p
  split at hn
  ·rename_i e s f x hl
   split at hn
   ·rename_i hf
    obtain rfl := Option.some.inj hn
    obtain ⟨s1, cs1, ad1, q1, q2, _⟩ := hv
    have hl' := look_rt hrt hl
    obtain rfl := q1.shape hl'
    obtain ⟨_, _, B1, _, m4⟩ := h.place q1 hl'
    obtain ⟨A, c, rfl⟩ := m4.slen hf
    exact ⟨A, c, by simpa [mkV] using q2.symm⟩
   ·cases hn
  ·cases hn
 ·cases hn
theorem arr1 {α : Type} {a : Array α} {x : α} (h : a.toList = [x]) : a = #[x] := Array.ext' h
theorem arr2 {α : Type} {a : Array α} {x y : α} (h : a.toList = [x, y]) : a = #[x, y] := Array.ext' h
theorem pop_len (hT : TabOk P T) (h : Rel L st a w Free) (hrt : ∀ g k s f x, rt.at g = .root k s f x → st.at g = .root k s f x) {args : Array Operand} {ts : Array TypeId} (ho : o.op = .call ⟨.builtin .len, args, ts⟩) (hp : pop T rt st o = some out) : out.c = true ∧ Goes P o a w L out.st out.pv ∧ (out.cl = true → out.st = st) := by
 unfold pop at hp
 rw [ho] at hp
 simp only at hp
 split at hp
 ·rename_i x t ha ht
  obtain rfl := arr1 ha
  obtain rfl := arr1 ht
  have hv := h.opnd x
  split at hp
  ·rename_i e s b nf fs cm hi0
   obtain ⟨hu, _⟩ := (hT t _ hi0).sl e s rfl rfl
   split at hp
   ·rename_i n hn
    obtain rfl := (Option.some.inj hp)
    obtain ⟨A, c, hval⟩ := len_of h hrt hv hn
    refine ⟨rfl, goes_o (v := .int .i64 n) ?_ (Stp.refl _ _) h rfl (ORep.mkInt _ _), fun _ => rfl⟩
    simp [execOp, ho, resolve, invoke, builtin, Builtin.len_, hval, run_underlying hu, goInt]
   ·cases hp
  ·rename_i b nf fs cm hi0
   have hu := (hT t _ hi0).str' rfl rfl
   split at hp
   ·rename_i s hx
    obtain rfl := (Option.some.inj hp)
    rw [hx] at hv
    refine ⟨rfl, goes_o (v := .int .i64 s.size) ?_ (Stp.refl _ _) h rfl (ORep.mkInt _ _), fun _ => rfl⟩
    simp [execOp, ho, resolve, invoke, builtin, Builtin.len_, hv.str, run_underlying hu, goInt]
   ·cases hp
  ·cases hp
 ·cases hp
theorem pop_min (h : Rel L st a w Free) {args : Array Operand} {ts : Array TypeId} (ho : o.op = .call ⟨.builtin .min, args, ts⟩) (hp : pop T rt st o = some out) : out.c = true ∧ Goes P o a w L out.st out.pv ∧ (out.cl = true → out.st = st) := by
 unfold pop at hp
 rw [ho] at hp
 simp only at hp
 split at hp
 ·rename_i x y ha
  obtain rfl := arr2 ha
  have hx0 := h.opnd x
  have hy0 := h.opnd y
  split at hp
  ·rename_i n m hx hy
   obtain rfl := (Option.some.inj hp)
   rw [hx] at hx0
   rw [hy] at hy0
   refine ⟨rfl, goes_o (v := .int .i64 (if m < n then m else n)) ?_ (Stp.refl _ _) h rfl (ORep.mkInt _ _), fun _ => rfl⟩
   simp [execOp, ho, resolve, invoke, builtin, Builtin.min_, Builtin.min2, hx0.int, hy0.int]
  ·cases hp
 ·cases hp
theorem pop_max (h : Rel L st a w Free) {args : Array Operand} {ts : Array TypeId} (ho : o.op = .call ⟨.builtin .max, args, ts⟩) (hp : pop T rt st o = some out) : out.c = true ∧ Goes P o a w L out.st out.pv ∧ (out.cl = true → out.st = st) := by
 unfold pop at hp
 rw [ho] at hp
 simp only at hp
 split at hp
 ·rename_i x y ha
  obtain rfl := arr2 ha
  have hx0 := h.opnd x
  have hy0 := h.opnd y
  split at hp
  ·rename_i n m hx hy
   obtain rfl := (Option.some.inj hp)
   rw [hx] at hx0
   rw [hy] at hy0
   refine ⟨rfl, goes_o (v := .int .i64 (if m > n then m else n)) ?_ (Stp.refl _ _) h rfl (ORep.mkInt _ _), fun _ => rfl⟩
   simp [execOp, ho, resolve, invoke, builtin, Builtin.max_, Builtin.max2, hx0.int, hy0.int]
  ·cases hp
 ·cases hp
end
end Go.Proofs.YtoeblmcibheldaaGreatDoor.V
end
section
/- Rows: append, make. No condition. -/
namespace Go.Proofs.YtoeblmcibheldaaGreatDoor.V
open Go Go.RowKit
/-- a slice whose elements are read -/
def Src (w : World) (Z : Nat → Prop) (s : Sh) (f : Fl) (ys : List s.ty) (v : Value) (Bs : Nat → Nat → Prop) : Prop :=
 ∃ X c, v = .slice X ys.length c ∧ (0 < ys.length → ∃ ad : Addr, X = some ad ∧ ∀ i, i < ys.length → ∃ c' : List Value, c'.length = s.size ∧ (∀ j, j < s.size → w.cell? (ad.add (i * s.size + j)) = c'[j]?) ∧ Rep w Z s f (ys.getD i s.zero) c' (Bs i))
theorem heap_cell {w w' : World} (h : w'.heap = w.heap) (A : Addr) : w'.cell? A = w.cell? A := World.cell?_of_block (by rw [h])
theorem Src.news {P : Program} {w : World} {Z : Nat → Prop} {s : Sh} {f : Fl} {ys : List s.ty} {v : Value} {Bs : Nat → Nat → Prop} (h : Src w Z s f ys v Bs) (hp : 0 < s.size) :
  ∃ X c, ∃ news : List Value, v = .slice X ys.length c ∧ news.length = ys.length * s.size ∧ (∀ u ∈ news, u.oneCell' = true) ∧ (∀ w', w'.heap = w.heap → (Builtin.firstCells s.size ys.length v).run P w' = .ok news.toArray w') ∧
   ∀ i, i < ys.length → ∃ c' : List Value, c'.length = s.size ∧ (∀ j, j < s.size → news[i * s.size + j]? = c'[j]?) ∧ Rep w Z s f (ys.getD i s.zero) c' (Bs i) := by
 obtain ⟨X, c, rfl, h2⟩ := h
 rcases Nat.eq_zero_or_pos ys.length with h0 | h0
 ·refine ⟨X, c, [], rfl, by simp [h0], fun u hu => by simp at hu, fun w' hw => ?_, fun i hi => by omega⟩
  rw [h0]
  cases X with
  | none => exact run_firstCells_none (P := P) w' _ _ _ _
  | some A => exact run_firstCells_some (P := P) w' s.size 0 A 0 c [] (by simp) (fun j u hj => by simp at hj)
 ·obtain ⟨ad, rfl, h3⟩ := h2 h0
  have key : ∀ k, k < ys.length * s.size → ∃ u, w.cell? (ad.add k) = some u ∧ u.oneCell' = true := by
   intro k hk
   have hi : k / s.size < ys.length := by rw [Nat.div_lt_iff_lt_mul hp]; exact hk
   have hj : k % s.size < s.size := Nat.mod_lt _ hp
   obtain ⟨c', q1, q2, q3⟩ := h3 _ hi
   have := q2 _ hj
   rw [show k / s.size * s.size + k % s.size = k by rw [Nat.mul_comm]; exact Nat.div_add_mod k s.size] at this
   rw [this, List.getElem?_eq_getElem (by omega)]
   exact ⟨_, rfl, q3.one _ (List.getElem_mem _)⟩
  have hcell : ∀ k, k < ys.length * s.size → (rowCells w ad (ys.length * s.size))[k]? = w.cell? (ad.add k) := by
   intro k hk
   obtain ⟨u, hu, _⟩ := key k hk
   simp [rowCells, hk, hu]
  have hlen : (rowCells w ad (ys.length * s.size)).length = ys.length * s.size := by simp [rowCells]
  refine ⟨some ad, c, rowCells w ad (ys.length * s.size), rfl, hlen, fun u hu => ?_, fun w' hw => ?_, fun i hi => ?_⟩
  ·obtain ⟨k, hk, e⟩ := List.mem_iff_getElem?.1 hu |>.imp fun k e => (⟨(List.getElem?_eq_some_iff.1 e).1, e⟩ : k < (rowCells w ad (ys.length * s.size)).length ∧ _)
   rw [hlen] at hk
   rw [hcell k hk] at e
   obtain ⟨u', e1, e2⟩ := key k hk
   rw [e1] at e
   obtain rfl := Option.some.inj e
   exact e2
  ·refine run_firstCells_some (P := P) w' s.size ys.length ad ys.length c _ hlen (fun j u hj => ?_)
   have hk : j < ys.length * s.size := by rw [← hlen]; exact (List.getElem?_eq_some_iff.1 hj).1
   rw [hcell j hk] at hj
   rw [heap_cell hw]; exact hj
  ·obtain ⟨c', q1, q2, q3⟩ := h3 i hi
   refine ⟨c', q1, fun j hj => ?_, q3⟩
   rw [hcell _ (Nat.lt_of_lt_of_le (Nat.add_lt_add_left hj _) (by rw [← Nat.succ_mul]; exact Nat.mul_le_mul_right _ hi))]
   exact q2 j hj
theorem getD_app {α : Type} (xs ys : List α) (i : Nat) (z : α) : (xs ++ ys).getD i z = if i < xs.length then xs.getD i z else ys.getD (i - xs.length) z := by
 simp only [List.getD_eq_getElem?_getD]
 split
 ·rename_i h; rw [List.getElem?_append_left h]
 ·rename_i h; rw [List.getElem?_append_right (by omega)]
/-- a row in two parts -/
theorem own_join {w : World} {Z : Nat → Prop} {e : TypeId} {s : Sh} {f : Fl} {xs ys : List s.ty} {g cap : Nat} {cur : Array Value} {rows1 rows2 : Nat → List Value} {Bs1 Bs2 : Nat → Nat → Prop} {B : Nat → Prop}
  (hg : w.heap[g]? = some (.cells cur e (0, 0))) (hle : xs.length + ys.length ≤ cap) (hcm : cap ≤ maxLen) (hcs : cur.size = cap * s.size) (hB : B g)
  (h1 : ∀ i, i < xs.length → (rows1 i).length = s.size ∧ (∀ j, j < s.size → cur[i * s.size + j]? = (rows1 i)[j]?) ∧ (∀ b, Bs1 i b → B b ∧ b ≠ g) ∧ Rep w Z s f (xs.getD i s.zero) (rows1 i) (Bs1 i))
  (h2 : ∀ i, i < ys.length → (rows2 i).length = s.size ∧ (∀ j, j < s.size → cur[(xs.length + i) * s.size + j]? = (rows2 i)[j]?) ∧ (∀ b, Bs2 i b → B b ∧ b ≠ g) ∧ Rep w Z s f (ys.getD i s.zero) (rows2 i) (Bs2 i))
  (d1 : ∀ i j b, i < xs.length → j < xs.length → i ≠ j → Bs1 i b → Bs1 j b → False) (d2 : ∀ i j b, i < ys.length → j < ys.length → i ≠ j → Bs2 i b → Bs2 j b → False) (d12 : ∀ i j b, i < xs.length → j < ys.length → Bs1 i b → Bs2 j b → False) :
  OwnR w e s.size (fun x c B' => Rep w Z s f x c B') s.zero (xs ++ ys) [.slice (some ⟨g, 0, none⟩) (xs.length + ys.length) cap] B := by
 refine .inr ⟨g, cap, cur, fun i => if i < xs.length then rows1 i else rows2 (i - xs.length), fun i => if i < xs.length then Bs1 i else Bs2 (i - xs.length), by simp, hg, by simpa using hle, hcm, hcs, hB, fun i hi => ?_, fun i j b hi hj hij hb1 hb2 => ?_⟩
 ·rw [List.length_append] at hi
  rw [getD_app]
  by_cases hlt : i < xs.length
  ·simp only [hlt, if_true]
   exact h1 i hlt
  ·simp only [hlt, if_false]
   obtain ⟨q1, q2, q3, q4⟩ := h2 (i - xs.length) (by omega)
   refine ⟨q1, fun j hj => ?_, q3, q4⟩
   have := q2 j hj
   rwa [show xs.length + (i - xs.length) = i by omega] at this
 ·rw [List.length_append] at hi hj
  by_cases h1 : i < xs.length <;> by_cases h2 : j < xs.length <;> simp only [h1, h2, if_true, if_false] at hb1 hb2
  ·exact d1 i j b h1 h2 hij hb1 hb2
  ·exact d12 i (j - xs.length) b h1 (by omega) hb1 hb2
  ·exact d12 j (i - xs.length) b h2 (by omega) hb2 hb1
  ·exact d2 (i - xs.length) (j - xs.length) b (by omega) (by omega) (by omega) hb1 hb2
section
variable {P : Program}
theorem run_append_grown (w : World) (t ty e : TypeId) (i : TypeInfo) (z : Value) (ht : P.underlying t = some (.slice e)) (hi : P.info? e = some i) (hz : i.zero = some z)
  (A : Option Addr) (sLen sCap : Nat) (olds : List Value) (hfo : (Builtin.firstCells i.size sLen (.slice A sLen sCap)).run P w.drew = .ok olds.toArray w.drew)
  (y : Value) (n : Nat) (news : List Value) {t2 : TypeId} (ht2 : P.underlying t2 = some (.slice e) ∨ P.underlying t2 = some .string) (hln : ∀ w, (Builtin.lenOf y).run P w = .ok n w) (hf : (Builtin.firstCells i.size n y).run P w.drew = .ok news.toArray w.drew)
  (hg : sCap < sLen + n) (h63 : ((sLen + n : Nat) : Int) ≤ 9223372036854775807) (hfit : Builtin.nextslicecap (sLen + n) sCap * i.bytes ≤ 281474976710656) :
  (Builtin.append_ #[t, t2] ty #[.slice A sLen sCap, y]).run P w =
   .ok (.slice (some ⟨w.heap.size, 0, none⟩) (sLen + n) (grownCap w (sLen + n) sCap e))
    (w.drew.alloc (.cells (olds.toArray ++ news.toArray ++ Builtin.zeroCells z.cells (grownCap w (sLen + n) sCap e - (sLen + n))) e)) := by
 have hn : ¬ (sLen + n ≤ sCap) := by omega
 have h63' : ¬ (9223372036854775807 < ((sLen : Int) + (n : Int))) := by omega
 have h48' : ¬ (281474976710656 < Builtin.nextslicecap (sLen + n) sCap * i.bytes) := by omega
 rcases ht2 with ht2 | ht2 <;>
 simp [Builtin.append_, run_underlying ht, run_underlying ht2, sizeOf, typeInfo, zeroValue, hi, hz, hln, hn, h63', h48', Question.forced, hf, hfo, newRow, grownCap] <;>
 congr 2 <;>
 apply Array.ext' <;>
 simp [List.append_assoc]
theorem run_append_roomy (w : World) (t ty e : TypeId) (i : TypeInfo) (ht : P.underlying t = some (.slice e)) (hi : P.info? e = some i)
  (g sLen sCap : Nat) (cur : Array Value) (hg : w.heap[g]? = some (.cells cur e (0, 0)))
  (y : Value) (n : Nat) (news : List Value) {t2 : TypeId} (ht2 : P.underlying t2 = some (.slice e) ∨ P.underlying t2 = some .string) (hln : ∀ w, (Builtin.lenOf y).run P w = .ok n w) (hl : news.length = n * i.size) (hf : (Builtin.firstCells i.size n y).run P w = .ok news.toArray w) (h1 : ∀ u ∈ news, u.oneCell' = true)
  (hroom : sLen + n ≤ sCap) (hfit : sLen * i.size + news.length ≤ cur.size) :
  (Builtin.append_ #[t, t2] ty #[.slice (some ⟨g, 0, none⟩) sLen sCap, y]).run P w =
   .ok (.slice (some ⟨g, 0, none⟩) (sLen + n) sCap) (w.setRow g (wrArr cur (sLen * i.size) news)) := by
 have hst := run_storeCells_at P g (sLen * i.size) e news 0 cur w hg (by simpa using hfit) h1
 simp only [Nat.add_zero] at hst
 rw [wrArr_list _ _ _ hfit]
 rcases ht2 with ht2 | ht2 <;> simp [Builtin.append_, run_underlying ht, run_underlying ht2, sizeOf, typeInfo, hi, hln, hroom, hf, Addr.add_lit, hst]
theorem run_append_empty (w : World) (t ty e : TypeId) (i : TypeInfo) (ht : P.underlying t = some (.slice e)) (hi : P.info? e = some i) (A : Option Addr) (y : Value) {t2 : TypeId} (ht2 : P.underlying t2 = some (.slice e) ∨ P.underlying t2 = some .string) (hln : ∀ w, (Builtin.lenOf y).run P w = .ok 0 w)
  (hf : (Builtin.firstCells i.size 0 y).run P w = .ok #[] w) :
  (Builtin.append_ #[t, t2] ty #[.slice A 0 0, y]).run P w = .ok (.slice A 0 0) w := by
 rcases ht2 with ht2 | ht2 <;> cases A <;> simp [Builtin.append_, run_underlying ht, run_underlying ht2, sizeOf, typeInfo, hi, hln, hf, storeCells]
theorem append_core2 {w : World} {Z : Nat → Prop} {t ty e : TypeId} {ti : TypeInfo} {z : Value} {s : Sh} {f : Fl} (ht : P.underlying t = some (.slice e)) (hi : P.info? e = some ti) (hz : ti.zero = some z) (hsz : ti.size = s.size) (hzc : z.cells.size = s.size) (hp : 0 < s.size)
  {xs ys : List s.ty} {vx vy : Value} {B1 B2 : Nat → Prop} {Bs2 : Nat → Nat → Prop} (hx : OwnR w e s.size (fun x c B' => Rep w Z s f x c B') s.zero xs [vx] B1) {news : List Value} {t2 : TypeId} (ht2 : P.underlying t2 = some (.slice e) ∨ P.underlying t2 = some .string) (hln : ∀ w, (Builtin.lenOf vy).run P w = .ok ys.length w) (n1 : news.length = ys.length * s.size) (n2 : ∀ u ∈ news, u.oneCell' = true) (n3 : ∀ w', w'.heap = w.heap → (Builtin.firstCells s.size ys.length vy).run P w' = .ok news.toArray w') (n4 : ∀ i, i < ys.length → ∃ c' : List Value, c'.length = s.size ∧ (∀ j, j < s.size → news[i * s.size + j]? = c'[j]?) ∧ Rep w Z s f (ys.getD i s.zero) c' (Bs2 i))
  (hBs : ∀ i b, i < ys.length → Bs2 i b → B2 b) (dj2 : ∀ i j b, i < ys.length → j < ys.length → i ≠ j → Bs2 i b → Bs2 j b → False) (d12 : ∀ b, B1 b → B2 b → False) (hB1 : ∀ b, B1 b → b < w.heap.size ∧ ¬ Z b) (hB2 : ∀ b, B2 b → b < w.heap.size) (hZ : ∀ b, Z b → b < w.heap.size)
  (hl1 : (xs.length + ys.length) * ti.bytes ≤ 140737488355328) (hl2 : xs.length + ys.length ≤ 140737488355328) :
  ∃ v' w', (Builtin.append_ #[t, t2] ty #[vx, vy]).run P w = .ok v' w' ∧ OwnR w' e s.size (fun x c B' => Rep w' Z s f x c B') s.zero (xs ++ ys) [v'] (fun b => B1 b ∨ B2 b ∨ (b = w.heap.size ∧ b < w'.heap.size)) ∧
   (w'.os = w.os ∧ w'.tape = w.tape ∧ w'.output = w.output ∧ w.heap.size ≤ w'.heap.size) ∧ ∀ b, b < w.heap.size → ¬ B1 b → w'.heap[b]? = w.heap[b]? := by
 have n4' : ∃ rows2 : Nat → List Value, ∀ i, i < ys.length → (rows2 i).length = s.size ∧ (∀ j, j < s.size → news[i * s.size + j]? = (rows2 i)[j]?) ∧ Rep w Z s f (ys.getD i s.zero) (rows2 i) (Bs2 i) := by
  refine ⟨fun i => if h : i < ys.length then (n4 i h).choose else [], fun i hi => ?_⟩
  simp only [hi, dif_pos]
  exact (n4 i hi).choose_spec
 obtain ⟨rows2, n5⟩ := n4'
 have hmx : xs.length + ys.length ≤ maxLen := by simp only [maxLen]; omega
 -- the growing arm
 have grown : ∀ (A : Option Addr) (cap : Nat) (olds : List Value), vx = .slice A xs.length cap → olds.length = xs.length * s.size → (Builtin.firstCells ti.size xs.length (.slice A xs.length cap)).run P w.drew = .ok olds.toArray w.drew →
   (∃ (rows1 : Nat → List Value) (Bs1 : Nat → Nat → Prop), (∀ i, i < xs.length → (rows1 i).length = s.size ∧ (∀ j, j < s.size → olds[i * s.size + j]? = (rows1 i)[j]?) ∧ (∀ b, Bs1 i b → B1 b) ∧ Rep w Z s f (xs.getD i s.zero) (rows1 i) (Bs1 i)) ∧
    ∀ i j b, i < xs.length → j < xs.length → i ≠ j → Bs1 i b → Bs1 j b → False) → cap < xs.length + ys.length →
   ∃ v' w', (Builtin.append_ #[t, t2] ty #[vx, vy]).run P w = .ok v' w' ∧ OwnR w' e s.size (fun x c B' => Rep w' Z s f x c B') s.zero (xs ++ ys) [v'] (fun b => B1 b ∨ B2 b ∨ (b = w.heap.size ∧ b < w'.heap.size)) ∧
   (w'.os = w.os ∧ w'.tape = w.tape ∧ w'.output = w.output ∧ w.heap.size ≤ w'.heap.size) ∧ ∀ b, b < w.heap.size → ¬ B1 b → w'.heap[b]? = w.heap[b]? := by
  rintro A cap olds rfl ho1 ho2 ⟨rows1, Bs1, r1, r2⟩ hgt
  have hge := grownCap_ge w (xs.length + ys.length) cap e
  have hcm := grownCap_le_maxLen w (xs.length + ys.length) cap e hmx
  have hrun := run_append_grown (P := P) w t ty e ti z ht hi hz A xs.length cap olds ho2 vy ys.length news ht2 hln (by have := n3 w.drew rfl; rwa [hsz]) hgt (by omega) (growslice_fits hgt hl1)
  refine ⟨_, _, hrun, ?_, ⟨rfl, rfl, rfl, by simp⟩, fun b hb _ => alloc_keep w.drew _ b hb⟩
  have hnew := heap_alloc_new w.drew (.cells (olds.toArray ++ news.toArray ++ Builtin.zeroCells z.cells (grownCap w (xs.length + ys.length) cap e - (xs.length + ys.length))) e)
  have hfr : ∀ b, b < w.heap.size → (w.drew.alloc (.cells (olds.toArray ++ news.toArray ++ Builtin.zeroCells z.cells (grownCap w (xs.length + ys.length) cap e - (xs.length + ys.length))) e)).heap[b]? = w.heap[b]? := fun b hb => alloc_keep w.drew _ b hb
  refine own_join (rows1 := rows1) (rows2 := rows2) (Bs1 := Bs1) (Bs2 := Bs2) hnew hge hcm ?_ (.inr (.inr ⟨rfl, by simp⟩)) (fun i hi' => ?_) (fun i hi' => ?_) r2 dj2 (fun i j b hi' hj' q1 q2 => d12 b ((r1 i hi').2.2.1 b q1) (hBs j b hj' q2))
  ·simp only [Array.size_append, List.size_toArray, size_zeroCells, hzc, ho1, n1, ← Nat.add_mul]
   congr 1
   omega
  ·obtain ⟨q1, q2, q3, q4⟩ := r1 i hi'
   refine ⟨q1, fun j hj => ?_, fun b hb => ⟨.inl (q3 b hb), fun e => ?_⟩, q4.frame (fun _ h => h) (fun b hb => hfr b (by rcases hb with hb | hb; exact hZ b hb; exact (hB1 b (q3 b hb)).1))⟩
   ·have hlt : i * s.size + j < olds.length := by rw [ho1]; exact Nat.lt_of_lt_of_le (Nat.add_lt_add_left hj _) (by rw [← Nat.succ_mul]; exact Nat.mul_le_mul_right _ hi')
    rw [← q2 j hj]
    rw [Array.getElem?_append_left (by simp; omega), Array.getElem?_append_left (by simpa using hlt)]
    simp
   ·have := (hB1 b (q3 b hb)).1
    have e : b = w.heap.size := e
    omega
  ·obtain ⟨q1, q2, q4⟩ := n5 i hi'
   refine ⟨q1, fun j hj => ?_, fun b hb => ⟨.inr (.inl (hBs i b hi' hb)), fun e => ?_⟩, q4.frame (fun _ h => h) (fun b hb => hfr b (by rcases hb with hb | hb; exact hZ b hb; exact hB2 b (hBs i b hi' hb)))⟩
   ·have hlt : i * s.size + j < news.length := by rw [n1]; exact Nat.lt_of_lt_of_le (Nat.add_lt_add_left hj _) (by rw [← Nat.succ_mul]; exact Nat.mul_le_mul_right _ hi')
    rw [← q2 j hj]
    have e1 : (xs.length + i) * s.size + j = olds.length + (i * s.size + j) := by rw [ho1, Nat.add_mul]; omega
    rw [e1, Array.getElem?_append_left (by simp; omega), Array.getElem?_append_right (by simp)]
    simp
   ·have := hB2 b (hBs i b hi' hb)
    have e : b = w.heap.size := e
    omega
 rcases hx with ⟨A, hA, rfl⟩ | ⟨g, cap, cur, rows, Bs, hA, h2, h3, h4, h5, h6, h7, h8⟩
 ·have hA : vx = .slice A 0 0 := by simpa using hA
  rcases Nat.eq_zero_or_pos ys.length with h0 | h0
  ·obtain rfl := List.eq_nil_of_length_eq_zero h0
   obtain rfl : news = [] := List.eq_nil_of_length_eq_zero (by simpa using n1)
   subst hA
   refine ⟨_, w, run_append_empty (P := P) w t ty e ti ht hi A vy ht2 hln (by rw [hsz]; exact n3 w rfl), .inl ⟨A, rfl, rfl⟩, ⟨rfl, rfl, rfl, Nat.le_refl _⟩, fun _ _ _ => rfl⟩
  ·refine grown A 0 [] hA (by simp) ?_ ⟨fun _ => [], fun _ _ => False, fun i hi => by simp at hi, fun i j b hi => by simp at hi⟩ (by simpa using h0)
   cases A with
   | none => exact run_firstCells_none (P := P) _ _ _ _ _
   | some A => exact run_firstCells_some (P := P) _ _ 0 A 0 0 [] (by simp) (fun j u hj => by simp at hj)
 ·have hA : vx = .slice (some ⟨g, 0, none⟩) xs.length cap := by simpa using hA
  subst hA
  by_cases hroom : xs.length + ys.length ≤ cap
  ·have hfit : xs.length * ti.size + news.length ≤ cur.size := by rw [hsz, n1, h5, ← Nat.add_mul]; exact Nat.mul_le_mul_right _ hroom
   have hrun := run_append_roomy (P := P) w t ty e ti ht hi g xs.length cap cur h2 vy ys.length news ht2 hln (by rw [n1, hsz]) (by rw [hsz]; exact n3 w rfl) n2 hroom hfit
   have hg := hB1 g h6
   have hfr : ∀ b, b ≠ g → (w.setRow g (wrArr cur (xs.length * ti.size) news)).heap[b]? = w.heap[b]? := fun b hb => setRow_other w g b _ hb
   refine ⟨_, _, hrun, ?_, ⟨rfl, rfl, rfl, by simp [World.setRow]⟩, fun b hb hn => hfr b (fun e => hn (e ▸ h6))⟩
   have hnew := setRow_heap w g cur (wrArr cur (xs.length * ti.size) news) e _ h2
   refine own_join (rows1 := rows) (rows2 := rows2) (Bs1 := Bs) (Bs2 := Bs2) hnew hroom h4 (by rw [wrArr_size, h5]) (.inl h6) (fun i hi' => ?_) (fun i hi' => ?_) h8 dj2 (fun i j b hi' hj' q1 q2 => d12 b ((h7 i hi').2.2.1 b q1).1 (hBs j b hj' q2))
   ·obtain ⟨q1, q2, q3, q4⟩ := h7 i hi'
    refine ⟨q1, fun j hj => ?_, fun b hb => ⟨.inl (q3 b hb).1, (q3 b hb).2⟩, q4.frame (fun _ h => h) (fun b hb => hfr b (by rcases hb with hb | hb; exact fun e => hg.2 (e ▸ hb); exact (q3 b hb).2))⟩
    rw [← q2 j hj]
    exact wrArr_out _ _ _ _ (.inl (by rw [hsz]; exact Nat.lt_of_lt_of_le (Nat.add_lt_add_left hj _) (by rw [← Nat.succ_mul]; exact Nat.mul_le_mul_right _ hi')))
   ·obtain ⟨q1, q2, q4⟩ := n5 i hi'
    have hB := hBs i
    refine ⟨q1, fun j hj => ?_, fun b hb => ⟨.inr (.inl (hB b hi' hb)), fun e => d12 g h6 (e ▸ hB b hi' hb)⟩, q4.frame (fun _ h => h) (fun b hb => hfr b (by rcases hb with hb | hb; exact fun e => hg.2 (e ▸ hb); exact fun e => d12 g h6 (e ▸ hB b hi' hb)))⟩
    have hlt : i * s.size + j < news.length := by rw [n1]; exact Nat.lt_of_lt_of_le (Nat.add_lt_add_left hj _) (by rw [← Nat.succ_mul]; exact Nat.mul_le_mul_right _ hi')
    rw [← q2 j hj, show (xs.length + i) * s.size + j = xs.length * ti.size + (i * s.size + j) by rw [hsz, Nat.add_mul]; omega]
    exact wrArr_in _ _ _ _ hfit hlt
  ·-- the old cells are read
   have holds : ∀ k, k < xs.length * s.size → (cur.toList.take (xs.length * s.size))[k]? = cur[k]? := fun k hk => by rw [List.getElem?_take_of_lt hk, Array.getElem?_toList]
   have hle : xs.length * s.size ≤ cur.size := by rw [h5]; exact Nat.mul_le_mul_right _ h3
   have hlo : (cur.toList.take (xs.length * s.size)).length = xs.length * s.size := by simp; omega
   refine grown (some ⟨g, 0, none⟩) cap (cur.toList.take (xs.length * s.size)) rfl hlo ?_ ⟨rows, Bs, fun i hi' => ?_, h8⟩ (by omega)
   ·refine run_firstCells_some (P := P) _ _ xs.length _ _ _ _ (by rw [hlo, hsz]) (fun j u hj => ?_)
    have hk : j < xs.length * s.size := by rw [← hlo]; exact (List.getElem?_eq_some_iff.1 hj).1
    rw [holds j hk] at hj
    rw [heap_cell (w := w) (w' := w.drew) rfl, cell_row h2]; exact hj
   ·obtain ⟨q1, q2, q3, q4⟩ := h7 i hi'
    refine ⟨q1, fun j hj => ?_, fun b hb => (q3 b hb).1, q4⟩
    rw [holds _ (Nat.lt_of_lt_of_le (Nat.add_lt_add_left hj _) (by rw [← Nat.succ_mul]; exact Nat.mul_le_mul_right _ hi'))]
    exact q2 j hj
theorem append_core {w : World} {Z : Nat → Prop} {t ty e : TypeId} {ti : TypeInfo} {z : Value} {s : Sh} {f : Fl} (ht : P.underlying t = some (.slice e)) (hi : P.info? e = some ti) (hz : ti.zero = some z) (hsz : ti.size = s.size) (hzc : z.cells.size = s.size) (hp : 0 < s.size)
  {xs ys : List s.ty} {vx vy : Value} {B1 B2 : Nat → Prop} {Bs2 : Nat → Nat → Prop} (hx : OwnR w e s.size (fun x c B' => Rep w Z s f x c B') s.zero xs [vx] B1) (hy : Src w Z s f ys vy Bs2)
  (hBs : ∀ i b, i < ys.length → Bs2 i b → B2 b) (dj2 : ∀ i j b, i < ys.length → j < ys.length → i ≠ j → Bs2 i b → Bs2 j b → False) (d12 : ∀ b, B1 b → B2 b → False) (hB1 : ∀ b, B1 b → b < w.heap.size ∧ ¬ Z b) (hB2 : ∀ b, B2 b → b < w.heap.size) (hZ : ∀ b, Z b → b < w.heap.size)
  (hl1 : (xs.length + ys.length) * ti.bytes ≤ 140737488355328) (hl2 : xs.length + ys.length ≤ 140737488355328) :
  ∃ v' w', (Builtin.append_ #[t, t] ty #[vx, vy]).run P w = .ok v' w' ∧ OwnR w' e s.size (fun x c B' => Rep w' Z s f x c B') s.zero (xs ++ ys) [v'] (fun b => B1 b ∨ B2 b ∨ (b = w.heap.size ∧ b < w'.heap.size)) ∧
   (w'.os = w.os ∧ w'.tape = w.tape ∧ w'.output = w.output ∧ w.heap.size ≤ w'.heap.size) ∧ ∀ b, b < w.heap.size → ¬ B1 b → w'.heap[b]? = w.heap[b]? := by
 obtain ⟨X, c, news, rfl, n1, n2, n3, n4⟩ := hy.news (P := P) hp
 exact append_core2 ht hi hz hsz hzc hp hx (.inl ht) (fun w => by simp [Builtin.lenOf]) n1 n2 n3 n4 hBs dj2 d12 hB1 hB2 hZ hl1 hl2
end
end Go.Proofs.YtoeblmcibheldaaGreatDoor.V
end
section
/- The operations, one by one: append, make. No condition. -/
namespace Go.Proofs.YtoeblmcibheldaaGreatDoor.V
open Go Go.RowKit
theorem own_src {w : World} {Z : Nat → Prop} {e : TypeId} {s : Sh} {f : Fl} {ys : List s.ty} {v : Value} {B : Nat → Prop} (h : OwnR w e s.size (fun x c B' => Rep w Z s f x c B') s.zero ys [v] B) :
  ∃ Bs : Nat → Nat → Prop, Src w Z s f ys v Bs ∧ (∀ i b, i < ys.length → Bs i b → B b) ∧ ∀ i j b, i < ys.length → j < ys.length → i ≠ j → Bs i b → Bs j b → False := by
 rcases h with ⟨A, hA, rfl⟩ | ⟨g, cap, cur, rows, Bs, hA, h2, h3, h4, h5, h6, h7, h8⟩
 ·have hA : v = .slice A 0 0 := by simpa using hA
  exact ⟨fun _ _ => False, ⟨A, 0, hA, fun hp => by simp at hp⟩, fun i b hi => by simp at hi, fun i j b hi => by simp at hi⟩
 ·have hA : v = .slice (some ⟨g, 0, none⟩) ys.length cap := by simpa using hA
  refine ⟨Bs, ⟨_, cap, hA, fun hp => ⟨_, rfl, fun i hi => ?_⟩⟩, fun i b hi hb => ((h7 i hi).2.2.1 b hb).1, h8⟩
  obtain ⟨q1, q2, q3, q4⟩ := h7 i hi
  exact ⟨rows i, q1, fun j hj => by rw [cell_row h2]; exact q2 j hj, q4⟩
theorem Src.imp {w : World} {Z : Nat → Prop} {s : Sh} {f f' : Fl} {ys : List s.ty} {v : Value} {Bs Bs' : Nat → Nat → Prop} (h : Src w Z s f ys v Bs) (k : ∀ i c, i < ys.length → Rep w Z s f (ys.getD i s.zero) c (Bs i) → Rep w Z s f' (ys.getD i s.zero) c (Bs' i)) : Src w Z s f' ys v Bs' := by
 obtain ⟨X, c, h1, h2⟩ := h
 refine ⟨X, c, h1, fun hp => ?_⟩
 obtain ⟨ad, e1, e2⟩ := h2 hp
 exact ⟨ad, e1, fun i hi => by obtain ⟨c', q1, q2, q3⟩ := e2 i hi; exact ⟨c', q1, q2, k i c' hi q3⟩⟩
theorem fz_src {w : World} {Z : Nat → Prop} {e : TypeId} {s : Sh} {ys : List s.ty} {v : Value} {B : Nat → Prop} (h : Rep w Z (.sl e s) .fz ys [v] B) : Src w Z s .fz ys v (fun _ _ => False) := by
 obtain ⟨A, c, h1, h2, h3, h4⟩ := h
 have h1 : v = .slice A ys.length c := by simpa using h1
 refine ⟨A, c, h1, fun hp => ?_⟩
 obtain ⟨ad, e1, e2, e3⟩ := h4 hp
 exact ⟨ad, e1, e3⟩
section
variable {P : Program} {o : Oper} {L L1 : Lay} {st st1 : St} {a : Act} {w w' : World} {R : Nat → Prop} {T : List (Nat × TI)} {rt : St} {out : Out}
theorem src_of (h : Rel L st a w R) (hrt : ∀ g k s f x, rt.at g = .root k s f x → st.at g = .root k s f x) {pv : PV} {v : Value} (hv : ORep L st w pv v) {e : TypeId} {s : Sh} {ys : List s.ty} (hr : rowOf rt e s pv = some ys) (hpl : s.plain = true ∨ pv.isH = false) :
  Src w L.Z s (if s.plain then .own else .fz) ys v (fun _ _ => False) := by
 have fin : Src w L.Z s .fz ys v (fun _ _ => False) → Src w L.Z s (if s.plain then .own else .fz) ys v (fun _ _ => False) := by
  intro hS
  split
  ·rename_i hp; exact hS.imp fun i c _ hR => hR.plain hp
  ·exact hS
 cases pv with
 | emp =>
  simp only [rowOf] at hr
  obtain rfl := Option.some.inj hr
  obtain ⟨A, hv⟩ := hv
  exact ⟨A, 0, hv, fun hp => by simp at hp⟩
 | v agg s' x =>
  cases agg with
  | true => simp [rowOf] at hr
  | false =>
   simp only [rowOf] at hr
   obtain ⟨rfl, hx⟩ := castTo_some hr
   simp only at hx
   subst hx
   obtain ⟨cs, m1, m2⟩ := hv
   have m1 : cs = [v] := by simpa [mkV] using m1
   subst m1
   exact fin (fz_src m2)
 | h agg g p =>
  cases agg with
  | true => simp [rowOf] at hr
  | false =>
   have hp : s.plain = true := hpl.resolve_right (by simp [PV.isH])
   simp only [rowOf] at hr
   split at hr
   ·rename_i s' f x hl
    split at hr
    ·rename_i hf
     obtain ⟨rfl, hx⟩ := castTo_some hr
     simp only at hx
     subst hx
     obtain ⟨s1, cs1, ad1, q1, q2, _⟩ := hv
     have hl' := look_rt hrt hl
     obtain rfl := q1.shape hl'
     obtain ⟨_, _, B1, _, m4⟩ := h.place q1 hl'
     have q2 : cs1 = [v] := by simpa [mkV] using q2
     subst q2
     rw [if_pos hp]
     cases f with
     | fz => exact (fz_src m4).imp fun i c _ hR => hR.plain hp
     | own => obtain ⟨Bs, hS, _⟩ := own_src m4; exact hS.imp fun i c _ hR => hR.plain hp
     | ownf => obtain ⟨Bs, hS, _⟩ := own_src m4; exact hS.imp fun i c _ hR => hR.plain hp
     | io n c => obtain ⟨Bs, hS, _⟩ := own_src m4.1; exact hS.imp fun i c _ hR => hR.plain hp
     | kz A c => exact (fz_src (e := e) (B := fun _ => False) m4.1).imp fun i c _ hR => hR.plain hp
     | junk => cases hf
     | pr => cases hf
    ·cases hr
   ·cases hr
 | dead => simp [rowOf] at hr
 | adr => simp [rowOf] at hr
 | fadr => simp [rowOf] at hr
 | root => simp [rowOf] at hr
 | fn => simp [rowOf] at hr
theorem Rel.head (h : Rel L st a w R) {pv : PV} {v : Value} (hv : ORep L st w pv v) {e : TypeId} {s : Sh} {g f0 : Fl} {xs : List s.ty} {st' : St} (hh : headRow st e s g pv = some (xs, st')) (hg : g = .own ∧ f0 = .own ∨ g = .ownf ∧ f0 = .fz) :
  ∃ L' B1, Sub L' L ∧ Rel L' st' a w (fun b => R b ∨ B1 b) ∧ (∀ b, B1 b → ¬ R b ∧ ∃ t, L.F t b) ∧ OwnR w e s.size (fun x c B' => Rep w L.Z s f0 x c B') s.zero xs [v] B1 ∧ st'.length = st.length ∧ (pv.isH = false → st' = st) := by
 cases pv with
 | emp =>
  simp only [headRow, Option.some.injEq, Prod.mk.injEq] at hh
  obtain ⟨rfl, rfl⟩ := hh
  obtain ⟨A, hv⟩ := hv
  exact ⟨L, fun _ => False, Sub.refl L, ⟨h.size, h.defers, h.zlt, h.flt, h.dj, fun b hb => h.rlt b (hb.resolve_right id), fun t b hb hr => h.rdj t b hb (hr.resolve_right id), h.tmp⟩, fun _ h => h.elim, .inl ⟨A, by rw [hv], rfl⟩, rfl, fun _ => rfl⟩
 | h agg r p =>
  cases agg with
  | true => simp [headRow] at hh
  | false =>
   simp only [headRow] at hh
   split at hh
   ·rename_i s' f x st2 ht
    split at hh
    ·rename_i ys hy
     split at hh
     ·rename_i hf
      obtain ⟨rfl, rfl⟩ := Prod.mk.inj (Option.some.inj hh)
      obtain ⟨rfl, hx⟩ := castTo_some hy
      simp only at hx
      subst hx
      obtain ⟨s1, cs1, ad1, q1, q2, _⟩ := hv
      have q2 : cs1 = [v] := by simpa [mkV] using q2
      subst q2
      obtain ⟨L', B1, k1, k2, k3, k4, k5⟩ := h.take ht q1
      refine ⟨L', B1, k1, k2, k3, ?_, k5, fun e => by cases e⟩
      rcases hf with rfl | ⟨hp, hf⟩
      ·rcases hg with ⟨rfl, rfl⟩ | ⟨rfl, rfl⟩
       ·exact k4
       ·exact k4
      ·have imp : ∀ f1 : Fl, OwnR w e s.size (fun x c B' => Rep w L.Z s f1 x c B') s.zero x [v] B1 → OwnR w e s.size (fun x c B' => Rep w L.Z s f0 x c B') s.zero x [v] B1 := fun f1 hR => hR.imp fun i c B' _ hr => hr.plain hp
       rcases hf with rfl | rfl
       ·exact imp _ k4
       ·exact imp _ k4
     ·cases hh
    ·cases hh
   ·cases hh
 | dead => simp [headRow] at hh
 | v => simp [headRow] at hh
 | adr => simp [headRow] at hh
 | fadr => simp [headRow] at hh
 | root => simp [headRow] at hh
 | fn => simp [headRow] at hh
theorem append_fin {t : Nat} {e : TypeId} {s : Sh} {x y : Operand} {ti : TypeInfo} {z : Value} {f0 fr : Fl} {xs ys : List s.ty} {B1 B2 : Nat → Prop} {Bs2 : Nat → Nat → Prop} (h : Rel L st a w Free) (hs : Sub L1 L) (h1 : Rel L1 st1 a w R)
  (ho : o.op = .call ⟨.builtin .append, #[x, y], #[t, t]⟩) (hu : P.underlying t = some (.slice e)) (hi : P.info? e = some ti) (hsz : ti.size = s.size) (hz : ti.zero = some z) (hzc : z.cells.toList = s.encZ) (hp : 0 < s.size)
  (hf : f0 = .own ∧ fr = .own ∨ f0 = .fz ∧ fr = .ownf) (hx : OwnR w e s.size (fun x c B' => Rep w L.Z s f0 x c B') s.zero xs [a.eval x] B1) (hy : Src w L.Z s f0 ys (a.eval y) Bs2)
  (hBs : ∀ i b, i < ys.length → Bs2 i b → B2 b) (dj2 : ∀ i j b, i < ys.length → j < ys.length → i ≠ j → Bs2 i b → Bs2 j b → False) (d12 : ∀ b, B1 b → B2 b → False) (hB1 : ∀ b, B1 b → R b ∧ ∃ t, L.F t b) (hB2 : ∀ b, B2 b → R b ∧ ∃ t, L.F t b)
  (hl1 : (xs.length + ys.length) * ti.bytes ≤ 140737488355328) (hl2 : xs.length + ys.length ≤ 140737488355328) : Goes P o a w L st1 (.root (.val false) (.sl e s) fr (xs ++ ys)) := by
 have hlt : ∀ b, (∃ t, L.F t b) → b < w.heap.size ∧ ¬ L.Z b := fun b ⟨t, hb⟩ => h.flt t b hb
 have hzc' : z.cells.size = s.size := by rw [← Array.length_toList, hzc]; exact (Rep.zero w L.Z s Free).len
 obtain ⟨v', w', r1, r2, ⟨r3, r4, r5, r6⟩, r7⟩ := append_core (P := P) (ty := o.type) hu hi hz hsz hzc' hp hx hy hBs dj2 d12 (fun b hb => hlt b (hB1 b hb).2) (fun b hb => (hlt b (hB2 b hb).2).1) h.zlt.lt hl1 hl2
 have hext : Rel L1 st1 a w' R := h1.ext r6 (fun b hb => r7 b (by rcases hb with hb | ⟨t, hb⟩; exact h1.zlt b hb; exact (h1.flt t b hb).1) (fun hb1 => by
  have := (hB1 b hb1).1
  rcases hb with hb | ⟨t, hb⟩
  ·exact (h1.rlt b this).2 hb
  ·exact h1.rdj t b hb this))
 have hrun : (execOp a.eval o).run P w = .ok (.value v') w' := by
  simp [execOp, ho, resolve, invoke, builtin, r1]
 refine goes_r (cs := [v']) (ad := none) (B := fun b => B1 b ∨ B2 b ∨ (b = w.heap.size ∧ b < w'.heap.size)) (Fd := fun b => B1 b ∨ B2 b ∨ (b = w.heap.size ∧ b < w'.heap.size)) hrun ⟨r3, r4, r5, r6, fun b hb hn => r7 b hb (fun hb1 => by obtain ⟨t, ht⟩ := (hB1 b hb1).2; exact hn t ht), .of hs.Z, fun t b hb => .inl (hs.F t b hb)⟩ hext ⟨rfl, fun _ => rfl, rfl⟩ (fun _ h => h) (fun A hA => by cases hA) ?_ (fun b hb => ?_) (fun b hb => ?_)
 ·rw [hs.Z]
  rcases hf with ⟨rfl, rfl⟩ | ⟨rfl, rfl⟩
  ·exact r2
  ·exact r2
 ·have hold : ∀ b, R b → (∃ t, L.F t b) → b < w'.heap.size ∧ ¬ L1.Z b ∧ ∀ t, ¬ L1.F t b := fun b hR hF => ⟨by have := (hlt b hF).1; omega, by rw [hs.Z]; exact (hlt b hF).2, fun t ht => h1.rdj t b ht hR⟩
  rcases hb with hb | hb | hb
  ·exact hold b (hB1 b hb).1 (hB1 b hb).2
  ·exact hold b (hB2 b hb).1 (hB2 b hb).2
  ·obtain ⟨rfl, hb⟩ := hb
   refine ⟨hb, fun hz => ?_, fun t ht => ?_⟩
   ·have := h1.zlt _ hz; omega
   ·have := (h1.flt _ _ ht).1; omega
 ·rcases hb with hb | hb | hb
  ·exact .inl (hB1 b hb).2
  ·exact .inl (hB2 b hb).2
  ·exact .inr (by omega)
theorem lim_of {n b : Nat} (h : limOk n b = true) : n * b ≤ 140737488355328 ∧ n ≤ 140737488355328 := by simpa [limOk] using h
theorem pop_append (hT : TabOk P T) (h : Rel L st a w Free) (hrt : ∀ g k s f x, rt.at g = .root k s f x → st.at g = .root k s f x) {args : Array Operand} {ts : Array TypeId} (ho : o.op = .call ⟨.builtin .append, args, ts⟩) (hp : pop T rt st o = some out) (hc : out.c = true) : Goes P o a w L out.st out.pv ∧ (out.cl = true → out.st = st) := by
 unfold pop at hp
 rw [ho] at hp
 simp only at hp
 split at hp
 ·rename_i x y t t' ha ht
  obtain rfl := arr2 ha
  obtain rfl := arr2 ht
  split at hp
  ·rename_i e s b nf fs cm hi0
   obtain ⟨hu, ti, z, i1, i2, i3, i4, i5⟩ := (hT t _ hi0).sl e s rfl rfl
   split at hp
   ·rename_i i hi
    split at hp
    ·rename_i hst
     obtain ⟨rfl, rfl⟩ := hst
     have hby : ti.bytes = i.bytes := by
      obtain ⟨ti', z', q1, q2, q3, _⟩ := (hT e _ hi).info
      rw [i1] at q1
      obtain rfl := Option.some.inj q1
      exact q3
     split at hp
     ·rename_i hpl
      split at hp
      ·rename_i ys hys
       split at hp
       ·rename_i xs st' hhd
        obtain rfl := (Option.some.inj hp)
        obtain ⟨l1, l2⟩ := lim_of hc
        have hsrc := src_of h hrt (h.opnd y) hys (by simpa using hpl)
        obtain ⟨L', B1, k1, k2, k3, k4, k5, k6⟩ := h.head (f0 := if i.sh.plain then .own else .fz) (h.opnd x) hhd (by cases i.sh.plain <;> simp)
        refine ⟨append_fin (B2 := Free) h k1 k2 ho hu i1 i2 i3 i4 i5 (f0 := if i.sh.plain then .own else .fz) (by cases i.sh.plain <;> simp) k4 hsrc (fun i b _ hb => hb) (fun i j b _ _ _ hb => hb.elim) (fun b _ hb => hb) (fun b hb => ⟨.inr hb, (k3 b hb).2⟩) (fun b hb => hb.elim) (by rw [hby]; exact l1) l2, fun hcl => k6 (by simpa using hcl)⟩
       ·cases hp
      ·cases hp
     ·split at hp
      ·rename_i ys st1 hhy
       split at hp
       ·rename_i xs st2 hhx
        obtain rfl := (Option.some.inj hp)
        obtain ⟨l1, l2⟩ := lim_of hc
        obtain ⟨L1, B2, k1, k2, k3, k4, k5, k6⟩ := h.head (f0 := .own) (h.opnd y) hhy (.inl ⟨rfl, rfl⟩)
        obtain ⟨L2, B1, m1, m2, m3, m4, m5, m6⟩ := k2.head (f0 := .own) (k2.opnd x) hhx (.inl ⟨rfl, rfl⟩)
        rw [k1.Z] at m4
        obtain ⟨Bs, hS, hS1, hS2⟩ := own_src k4
        refine ⟨append_fin (B2 := B2) h (m1.trans k1) m2 ho hu i1 i2 i3 i4 i5 (f0 := .own) (.inl ⟨rfl, rfl⟩) m4 hS hS1 hS2 (fun b hb1 hb2 => (m3 b hb1).1 (.inr hb2)) (fun b hb => ⟨.inr hb, ?_⟩) (fun b hb => ⟨.inl (.inr hb), (k3 b hb).2⟩) (by rw [hby]; exact l1) l2, fun hcl => by cases hcl⟩
        obtain ⟨t, ht⟩ := (m3 b hb).2
        exact k1.F t b ht
       ·cases hp
      ·cases hp
    ·cases hp
   ·cases hp
  ·cases hp
 ·cases hp
theorem zero_cells {z : Value} {s : Sh} (h : z.cells.toList = s.encZ) {n i j : Nat} (hi : i < n) (hj : j < s.size) (hl : s.encZ.length = s.size) : (madeCells z.cells (n * s.size))[i * s.size + j]? = s.encZ[j]? := by
 have hlt : i * s.size + j < n * s.size := Nat.lt_of_lt_of_le (Nat.add_lt_add_left hj _) (by rw [← Nat.succ_mul]; exact Nat.mul_le_mul_right _ hi)
 have hsz : z.cells.size = s.size := by rw [← Array.length_toList, h, hl]
 have hm : (i * s.size + j) % z.cells.size = j := by
  rw [hsz, Nat.mul_comm, Nat.mul_add_mod]
  exact Nat.mod_eq_of_lt hj
 have hj' : j < z.cells.size := by omega
 rw [← h]
 simp [madeCells, hlt, hm, hj']
theorem pop_makeSlice (hT : TabOk P T) (h : Rel L st a w Free) {t : Nat} {l c : Operand} (ho : o.op = .makeSlice t l c) (hp : pop T rt st o = some out) (hc : out.c = true) : Goes P o a w L out.st out.pv ∧ (out.cl = true → out.st = st) := by
 unfold pop at hp
 rw [ho] at hp
 simp only at hp
 have hl0 := h.opnd l
 have hc0 := h.opnd c
 split at hp
 ·rename_i e s b nf fs cm hi0
  obtain ⟨hu, ti, z, i1, i2, i3, i4, i5⟩ := (hT t _ hi0).sl e s rfl rfl
  split at hp
  ·rename_i i hi
   split at hp
   ·rename_i n m hl hm
    split at hp
    ·rename_i hst
     obtain rfl := hst
     obtain rfl := (Option.some.inj hp)
     refine ⟨?_, fun _ => rfl⟩
     have hby : ti.bytes = i.bytes := by
      obtain ⟨ti', z', q1, q2, q3, _⟩ := (hT e _ hi).info
      rw [i1] at q1
      obtain rfl := Option.some.inj q1
      exact q3
     rw [hl] at hl0
     rw [hm] at hc0
     simp only [Bool.and_eq_true, decide_eq_true_eq] at hc
     obtain ⟨⟨c1, c2⟩, c3⟩ := hc
     obtain ⟨l1, l2⟩ := lim_of c3
     have c1 : @LE.le Int _ 0 n := c1
     obtain ⟨k, rfl⟩ : ∃ k : Nat, n = (k : Int) := ⟨n.toNat, (Int.toNat_of_nonneg c1).symm⟩
     have c2 : m = (k : Int) := c2.symm
     subst c2
     simp only [Int.toNat_natCast] at l1 l2 ⊢
     have hb' : (ti.bytes : Int) * (k : Int) ≤ 281474976710656 := by
      have : ((ti.bytes * k : Nat) : Int) ≤ 281474976710656 := by rw [hby, Nat.mul_comm]; omega
      rwa [Int.natCast_mul] at this
     have hr := run_make (P := P) w t e ti z hu i1 i3 .i64 .i64 k k (by omega) (Int.le_refl _) hb' (by omega)
     simp only [Int.toNat_natCast, i2] at hr
     have hzl := (Rep.zero w L.Z i.sh Free).len
     refine goes_r (cs := [.slice (some ⟨w.heap.size, 0, none⟩) k k]) (ad := none) (B := fun b => b = w.heap.size) (Fd := fun b => b = w.heap.size) (v := .slice (some ⟨w.heap.size, 0, none⟩) k k) ?_ (Stp.ext (Ext.alloc w _)) (h.grow (Ext.alloc w (.cells (madeCells z.cells (k * i.sh.size)) e))) ⟨rfl, fun _ => rfl, rfl⟩ (fun _ h => h) (fun A hA => by cases hA) ?_ (fun b hb => ?_) (fun b hb => .inr (by omega))
     ·simp [execOp, ho, hl0.int, hc0.int, hr]
     ·refine .inr ⟨w.heap.size, k, _, fun _ => i.sh.encZ, fun _ _ => False, by simp, heap_alloc_new w _, by simp, by simp only [maxLen]; omega, size_madeCells _ _, rfl, fun j hj => ⟨hzl, fun q hq => zero_cells i4 (by simpa using hj) hq hzl, fun b hb => hb.elim, ?_⟩, fun _ _ _ _ _ _ hb => hb.elim⟩
      have : (List.replicate k i.sh.zero).getD j i.sh.zero = i.sh.zero := by
       have hj' : j < k := by simpa using hj
       simp [List.getD_eq_getElem?_getD, hj']
      rw [this]
      exact Rep.zero _ _ _ _
     ·subst hb
      refine ⟨by simp, fun hz => ?_, fun t ht => ?_⟩
      ·have := h.zlt _ hz; omega
      ·have := (h.flt _ _ ht).1; omega
    ·cases hp
   ·cases hp
  ·cases hp
 ·cases hp
end
end Go.Proofs.YtoeblmcibheldaaGreatDoor.V
end
section
/- The operations, one by one: literals. No condition. -/
namespace Go.Proofs.YtoeblmcibheldaaGreatDoor.V
open Go Go.RowKit
theorem Rep.sub {w : World} {Z : Nat → Prop} : ∀ {s : Sh} {f g : Fl} {x : s.ty} {cs : List Value} {B : Nat → Prop}, Fl.sub s f g = true → Rep w Z s f x cs B → Rep w Z s g x cs B
 | .unit, _, _, _, _, _, _, h => h
 | .int _, _, _, _, _, _, _, h => h
 | .bool, _, _, _, _, _, _, h => h
 | .str, _, _, _, _, _, _, h => h
 | .pr a b, f, g, x, cs, B, k, ⟨c1, c2, B1, B2, h1, h2, h3, h4, h5, h6⟩ => by
  simp only [Fl.sub, Bool.and_eq_true] at k
  exact ⟨c1, c2, B1, B2, h1, h2, h3, h4, h5.sub k.1, h6.sub k.2⟩
 | .sl e s, f, g, x, cs, B, k, h => by
  simp only [Fl.sub, Bool.or_eq_true, Bool.and_eq_true, beq_iff_eq] at k
  rcases k with rfl | ⟨⟨hp, hf⟩, hg⟩
  ·exact h
  ·have imp : ∀ f1 f2 : Fl, OwnR w e s.size (fun x c B' => Rep w Z s f1 x c B') s.zero x cs B → OwnR w e s.size (fun x c B' => Rep w Z s f2 x c B') s.zero x cs B := fun f1 f2 hR => hR.imp fun i c B' _ hr => hr.plain hp
   rcases hf with rfl | rfl <;> rcases hg with rfl | rfl
   ·exact h
   ·exact imp _ _ h
   ·exact imp _ _ h
   ·exact h
theorem Rep.zeroF (w : World) (Z : Nat → Prop) : ∀ (s : Sh) (B : Nat → Prop), Rep w Z s .fz s.zero s.encZ B
 | .unit, _ => rfl
 | .int _, _ => rfl
 | .bool, _ => rfl
 | .str, _ => rfl
 | .sl _ s, _ => ⟨none, 0, rfl, by show (0 : Nat) ≤ 0; omega, by show (0 : Nat) ≤ _; omega, fun h => by simp [Sh.zero] at h⟩
 | .pr a b, _ => ⟨a.encZ, b.encZ, fun _ => False, fun _ => False, rfl, fun _ h => h.elim, fun _ h => h.elim, fun _ h _ => h, Rep.zeroF w Z a _, Rep.zeroF w Z b _⟩
/-- a field written -/
theorem upd_field {w : World} {Z : Nat → Prop} : ∀ (k n : Nat) {s : Sh} {o : Nat} {s1 : Sh}, fieldAt s k n = some (o, s1) → ∀ {f : Fl} {x : s.ty} {cs : List Value} {B : Nat → Prop} {f1 : Fl} {x1 : s1.ty} {cs1 : List Value} {B1 : Nat → Prop} {f2 : Fl} {x2 : s.ty},
  Rep w Z s f x cs B → Rep w Z s1 f1 x1 cs1 B1 → (∀ b, B b → B1 b → False) → upd s1 f1 x1 s f x (fpath k n) = some (f2, x2) → Rep w Z s f2 x2 (cs.take o ++ cs1 ++ cs.drop (o + s1.size)) (fun b => B b ∨ B1 b) := by
 intro k
 induction k with
 | zero =>
  intro n s o s1 h f x cs B f1 x1 cs1 B1 f2 x2 hR hR1 hd hu
  have whole : ∀ (s : Sh) (f : Fl) (x : s.ty) (f2 : Fl) (x2 : s.ty), upd s1 f1 x1 s f x [] = some (f2, x2) → ∃ e : s1 = s, f2 = f1 ∧ x2 = e ▸ x1 := by
   intro s f x f2 x2 hu
   have : upd s1 f1 x1 s f x [] = if h : s1 = s then some (f1, h ▸ x1) else none := by cases s <;> rfl
   rw [this] at hu
   split at hu
   ·rename_i e
    obtain ⟨e1, e2⟩ := Prod.mk.inj (Option.some.inj hu)
    exact ⟨e, e1.symm, e2.symm⟩
   ·cases hu
  match n with
  | 0 => cases s <;> simp [fieldAt] at h
  | 1 =>
   have e : (0, s) = (o, s1) := by cases s <;> exact Option.some.inj h
   obtain ⟨rfl, rfl⟩ := Prod.mk.inj e
   obtain ⟨e1, rfl, rfl⟩ := whole s f x f2 x2 hu
   rw [List.take_zero, List.nil_append, Nat.zero_add, ← hR.len, List.drop_length, List.append_nil]
   exact hR1.mono fun b hb => .inr hb
  | n + 2 =>
   cases s with
   | pr a b =>
    simp only [fieldAt, Option.some.injEq, Prod.mk.injEq] at h
    obtain ⟨rfl, rfl⟩ := h
    have hfp : fpath 0 (n + 2) = [.l] := by simp [fpath]
    rw [hfp] at hu
    have hu : (match upd a f1 x1 a f.l x.1 [] with | some (g, y) => some (Fl.pr g f.r, ((y, x.2) : (Sh.pr a b).ty)) | none => none) = some (f2, x2) := hu
    split at hu
    ·rename_i g y hq
     obtain ⟨rfl, rfl⟩ := Prod.mk.inj (Option.some.inj hu)
     obtain ⟨_, rfl, rfl⟩ := whole _ f.l x.1 g y hq
     obtain ⟨c1, c2, B3, B4, rfl, k1, k2, k3, k4, k5⟩ := hR
     refine ⟨cs1, c2, B1, B4, ?_, fun b hb => .inr hb, fun b hb => .inl (k2 b hb), fun b h1 h2 => hd b (k2 b h2) h1, hR1, k5⟩
     rw [List.take_zero, List.nil_append, Nat.zero_add, List.drop_left' k4.len]
    ·cases hu
   | unit => simp [fieldAt] at h
   | int _ => simp [fieldAt] at h
   | bool => simp [fieldAt] at h
   | str => simp [fieldAt] at h
   | sl _ _ => simp [fieldAt] at h
 | succ k ih =>
  intro n s o s1 h f x cs B f1 x1 cs1 B1 f2 x2 hR hR1 hd hu
  match n with
  | 0 => cases s <;> simp [fieldAt] at h
  | 1 => cases s <;> simp [fieldAt] at h
  | n + 2 =>
   cases s with
   | pr a b =>
    simp only [fieldAt, Option.map_eq_some_iff] at h
    obtain ⟨⟨o', s'⟩, h1, h2⟩ := h
    obtain ⟨rfl, rfl⟩ := Prod.mk.inj h2
    have hu : upd s' f1 x1 (.pr a b) f x (.r :: fpath k (n + 1)) = some (f2, x2) := hu
    simp only [upd] at hu
    split at hu
    ·rename_i g y hq
     obtain ⟨rfl, rfl⟩ := Prod.mk.inj (Option.some.inj hu)
     obtain ⟨c1, c2, B3, B4, rfl, k1, k2, k3, k4, k5⟩ := hR
     have hih := ih (n + 1) h1 k5 hR1 (fun b hb h1 => hd b (k2 b hb) h1) hq
     refine ⟨c1, c2.take o' ++ cs1 ++ c2.drop (o' + s'.size), B3, fun b => B4 b ∨ B1 b, ?_, fun b hb => .inl (k1 b hb), fun b hb => hb.imp (k2 b) id, fun b h1 h2 => h2.elim (k3 b h1) (hd b (k1 b h1)), k4, hih⟩
     have hl := k4.len
     have e1 : (c1 ++ c2).take (a.size + o') = c1 ++ c2.take o' := by rw [← hl, List.take_length_add_append]
     have e2 : (c1 ++ c2).drop (a.size + o' + s'.size) = c2.drop (o' + s'.size) := by rw [Nat.add_assoc, ← hl, List.drop_length_add_append]
     show List.take (a.size + o') (c1 ++ c2) ++ cs1 ++ List.drop (a.size + o' + s'.size) (c1 ++ c2) = _
     rw [e1, e2, List.append_assoc, List.append_assoc, List.append_assoc]
    ·cases hu
   | unit => simp [fieldAt] at h
   | int _ => simp [fieldAt] at h
   | bool => simp [fieldAt] at h
   | str => simp [fieldAt] at h
   | sl _ _ => simp [fieldAt] at h
theorem foldl_wrArr : ∀ (vs : List Value) (k off : Nat) (c : Array Value), (vs.zipIdx k).foldl (fun cs (p : Value × Nat) => cs.setIfInBounds (off + p.2) p.1) c = wrArr c (off + k) vs
 | [], _, _, _ => rfl
 | v :: vs, k, off, c => by
  simp only [List.zipIdx_cons, List.foldl_cons, wrArr]
  rw [foldl_wrArr vs (k + 1) off, Nat.add_assoc]
theorem fill_cons {place : Nat → Option (Nat × Nat)} {cells : Array Value} {i : Nat} {v : Value} {rest : List (Nat × Value)} {off size : Nat} {cs1 : List Value} (hpl : place i = some (off, size)) (hv : v.cells.toList = cs1) (hl : cs1.length = size) (hb : off + size ≤ cells.size) :
  Instr.fill place cells ((i, v) :: rest) = Instr.fill place (wrArr cells off cs1) rest := by
 have hs : v.cells.size = size := by rw [← Array.length_toList, hv, hl]
 have hfold : (v.cells.zipIdx.foldl (fun cs (c, j) => cs.setIfInBounds (off + j) c) cells) = wrArr cells off cs1 := by
  rw [← Array.foldl_toList, Array.toList_zipIdx, hv]
  exact foldl_wrArr cs1 0 off cells
 have hc : (decide (v.cells.size ≠ size) || decide (off + v.cells.size > cells.size)) = false := by
  simp [hs]; omega
 simp only [Instr.fill, hpl, hfold]
 simp [hs]
 omega
section
variable {P : Program} {o : Oper} {L L1 : Lay} {st st1 : St} {a : Act} {w w' : World} {R : Nat → Prop} {T : List (Nat × TI)} {rt : St} {out : Out}
theorem run_fillSt {s : Sh} {n : Nat} {fs : List (Bool × Sh)} {place : Nat → Option (Nat × Nat)} (hpl : ∀ k agg s1, k < n → fs[k]? = some (agg, s1) → ∃ o, fieldAt s k n = some (o, s1) ∧ place k = some (o, s1.size)) :
  ∀ (parts : List (Nat × Operand)) {L : Lay} {st : St} {R B : Nat → Prop} {f : Fl} {x : s.ty} {cs : List Value} {f' : Fl} {x' : s.ty} {st' : St}, Rel L st a w R → Rep w L.Z s f x cs B → (∀ b, B b → R b) → fillSt n fs parts st s f x = some (f', x', st') →
   ∃ L' R' B' cs', Sub L' L ∧ Rel L' st' a w R' ∧ Instr.fill place cs.toArray (parts.map fun p => (p.1, a.eval p.2)) = some cs'.toArray ∧ Rep w L.Z s f' x' cs' B' ∧ (∀ b, B' b → R' b) ∧ (∀ b, B' b → B b ∨ ∃ t, L.F t b) ∧ (noH st parts = true → st' = st)
 | [], L, st, R, B, f, x, cs, f', x', st', h, hR, hB, hf => by
  simp only [fillSt, Option.some.injEq, Prod.mk.injEq] at hf
  obtain ⟨rfl, rfl, rfl⟩ := hf
  exact ⟨L, R, B, cs, Sub.refl L, h, rfl, hR, hB, fun b hb => .inl hb, fun _ => rfl⟩
 | (k, y) :: r, L, st, R, B, f, x, cs, f', x', st', h, hR, hB, hf => by
  simp only [fillSt] at hf
  split at hf
  ·rename_i agg s1 hk
   split at hf
   ·rename_i hkn
    split at hf
    ·rename_i f1 x1 st1 hg
     split at hf
     ·rename_i f2 x2 hu
      obtain ⟨L1, B1, cs1, g1, g2, g3, g4, g5, g6, g7⟩ := h.grab (h.opnd y) hg
      obtain ⟨off, hfa, hplk⟩ := hpl k agg s1 hkn hk
      have hR2 := upd_field k n hfa hR g5 (fun b hb hb1 => (g3 b hb1).1 (hB b hb)) hu
      obtain ⟨_, _, hle, _, _⟩ := field_at k n hfa f x
      have hlen := hR.len
      obtain ⟨L2, R2, B2, cs2, k1, k2, k3, k4, k5, k6, k7⟩ := run_fillSt hpl r g2 (g1.Z ▸ hR2) (fun b hb => hb.imp (hB b) id) hf
      refine ⟨L2, R2, B2, cs2, k1.trans g1, k2, ?_, g1.Z ▸ k4, k5, fun b hb => ?_, fun hn => ?_⟩
      ·rw [List.map_cons, fill_cons hplk (mkV_cells g4 g5.one) g5.len (by simp; omega), wrArr_list _ _ _ (by rw [g5.len]; simp; omega), g5.len]
       exact k3
      ·rcases k6 b hb with (hb | hb) | ⟨t, hb⟩
       ·exact .inl hb
       ·exact .inr (g3 b hb).2
       ·exact .inr (g1.F t b hb)
      ·simp only [noH, List.all_cons, Bool.and_eq_true, Bool.not_eq_true'] at hn
       have e1 := g7 hn.1
       subst e1
       exact k7 hn.2
     ·cases hf
    ·cases hf
   ·cases hf
  ·cases hf
theorem mapM_some {α β : Type} (g : α → Option β) : ∀ (l : List α), (∀ x ∈ l, (g x).isSome = true) → ∃ r : List β, l.mapM g = some r ∧ ∀ (n : Nat) (x : α), l[n]? = some x → r[n]? = g x
 | [], _ => ⟨[], rfl, fun n x h => by simp at h⟩
 | x :: l, h => by
  obtain ⟨r, h1, h2⟩ := mapM_some g l (fun y hy => h y (List.mem_cons_of_mem _ hy))
  obtain ⟨y, hy⟩ := Option.isSome_iff_exists.1 (h x List.mem_cons_self)
  refine ⟨y :: r, by simp [List.mapM_cons, hy, h1], fun n z hz => ?_⟩
  cases n with
  | zero => simp only [List.getElem?_cons_zero, Option.some.injEq] at hz; subst hz; simp [hy]
  | succ n => exact h2 n z hz
theorem pop_build (hT : TabOk P T) (h : Rel L st a w Free) {t : Nat} {parts : Array (Nat × Operand)} (ho : o.op = .build t parts) (hp : pop T rt st o = some out) : out.c = true ∧ Goes P o a w L out.st out.pv ∧ (out.cl = true → out.st = st) := by
 unfold pop at hp
 rw [ho] at hp
 simp only at hp
 split at hp
 ·rename_i i hi
  have hTt := hT t i hi
  split at hp
  ·rename_i hag
   split at hp
   ·rename_i f x st' hf
    obtain rfl := (Option.some.inj hp)
    obtain ⟨ti, z, q1, q2, q3, q4, q5⟩ := hTt.info
    by_cases hz0 : i.nf = 0
    ·obtain ⟨hpl, na, ea, ie, u1, u2⟩ := hTt.arr hag hz0
     have hfe : parts.toList = [] ∧ f = .own ∧ x = i.sh.zero ∧ st' = st := by
      cases hpt : parts.toList with
      | nil =>
       rw [hpt] at hf
       simp only [fillSt, Option.some.injEq, Prod.mk.injEq] at hf
       exact ⟨rfl, hf.1.symm, hf.2.1.symm, hf.2.2.symm⟩
      | cons q r =>
       obtain ⟨i0, o0⟩ := q
       rw [hpt, hz0] at hf
       simp only [fillSt] at hf
       split at hf
       ·rw [if_neg (Nat.not_lt_zero _)] at hf; cases hf
       ·cases hf
     obtain ⟨e1, rfl, rfl, rfl⟩ := hfe
     have hb : P.built t ((parts.map fun (i, x) => (i, a.eval x)).toList) = some z.cells := by
      unfold Program.built
      rw [Array.toList_map, e1]
      simp only [q1, u1, q4, u2]
      rfl
     have hrun : (execOp a.eval o).run P w = .ok (.value (.agg z.cells)) w := by
      simp [execOp, ho, run_build (P := P) w t _ _ hb]
     refine ⟨rfl, ?_, fun _ => rfl⟩
     rw [if_pos (by rw [hpl]; rfl)]
     refine goes_o hrun (Stp.refl _ _) h rfl ⟨z.cells.toList, by simp [mkV], ?_⟩
     rw [q5]
     exact (Rep.zero w L.Z i.sh Free).plain hpl
    obtain ⟨fs, u1, u2, u3⟩ := hTt.str hag (by omega)
    obtain ⟨places, m1, m2⟩ := mapM_some (fun f : Field => (P.info? f.type).map fun i => (f.offset, i.size)) fs.toList (fun fd hfd => by
     obtain ⟨n, hn⟩ := List.mem_iff_getElem?.1 hfd
     have hlt : n < fs.size := by rw [← Array.length_toList]; exact (List.getElem?_eq_some_iff.1 hn).1
     obtain ⟨fd', agg1, s1, of, fi, v1, v2, v3, v4, v5, v6, v7, v8, v9, v10⟩ := (u3 n (by omega)).ex
     rw [Array.getElem?_toList, v1] at hn
     obtain rfl := Option.some.inj hn
     simp [v5])
    have hpl : ∀ k agg s1, k < i.nf → i.fs[k]? = some (agg, s1) → ∃ o, fieldAt i.sh k i.nf = some (o, s1) ∧ (places.toArray[·]?) k = some (o, s1.size) := by
     intro k agg s1 hk hks
     obtain ⟨fd', agg1, s2, of, fi, v1, v2, v3, v4, v5, v6, v7, v8, v9, v10⟩ := (u3 k hk).ex
     rw [hks] at v2
     obtain ⟨rfl, rfl⟩ := Prod.mk.inj (Option.some.inj v2)
     refine ⟨of, v3, ?_⟩
     have := m2 k fd' (by rw [Array.getElem?_toList, v1])
     simp only [List.getElem?_toArray]
     rw [this]
     simp [v5, v4, v6]
    obtain ⟨L', R', B', cs', k1, k2, k3, k4, k5, k6, k7⟩ := run_fillSt (a := a) (w := w) (place := (places.toArray[·]?)) hpl parts.toList h (Rep.zero w L.Z i.sh Free) (fun b hb => hb) hf
    have hb : P.built t ((parts.map fun (i, x) => (i, a.eval x)).toList) = some cs'.toArray := by
     unfold Program.built
     simp only [q1, u1, q4, m1]
     rw [Array.toList_map, show z.cells = i.sh.encZ.toArray by rw [← q5]]
     exact k3
    have hrun : (execOp a.eval o).run P w = .ok (.value (.agg cs'.toArray)) w := by
     simp [execOp, ho, run_build (P := P) w t _ _ hb]
    refine ⟨rfl, ?_, fun hcl => k7 hcl⟩
    by_cases hpf : (i.sh.plain || Fl.allfz i.sh f) = true
    ·rw [if_pos hpf]
     refine goes_o hrun (Stp.sub k1 w) k2 rfl ⟨cs', rfl, ?_⟩
     simp only [Bool.or_eq_true] at hpf
     rw [k1.Z]
     rcases hpf with hpf | hpf
     ·exact k4.plain hpf
     ·exact k4.allfz hpf
    ·rw [if_neg hpf]
     refine goes_r (cs := cs') (ad := none) (B := B') (Fd := B') hrun (Stp.sub k1 w) k2 ⟨rfl, (fun e => by cases e), rfl⟩ (fun _ h => h) (fun A hA => by cases hA) (k1.Z ▸ k4) (fun b hb => ?_) (fun b hb => ?_)
     ·exact ⟨(k2.rlt b (k5 b hb)).1, (k2.rlt b (k5 b hb)).2, fun t ht => k2.rdj t b ht (k5 b hb)⟩
     ·rcases k6 b hb with hb | hb
      ·exact hb.elim
      ·exact .inl hb
   ·cases hp
  ·cases hp
 ·cases hp
theorem run_fillRow {agg : Bool} {s : Sh} {g : Fl} (hg : g = .fz ∨ g = .own) (hsz : 0 < s.size) :
  ∀ (parts : List (Nat × Operand)) {L : Lay} {st : St} {R : Nat → Prop} {Bs : Nat → Nat → Prop} {xs : List s.ty} {cs : Array Value} {rows : Nat → List Value} {xs' : List s.ty} {st' : St}, Rel L st a w R → cs.size = xs.length * s.size →
   (∀ i, i < xs.length → (rows i).length = s.size ∧ (∀ j, j < s.size → cs[i * s.size + j]? = (rows i)[j]?) ∧ (∀ b, Bs i b → R b) ∧ Rep w L.Z s g (xs.getD i s.zero) (rows i) (Bs i)) →
   (∀ i j b, i < xs.length → j < xs.length → i ≠ j → Bs i b → Bs j b → False) → fillRow agg s g parts st xs = some (xs', st') →
   ∃ (L' : Lay) (R' : Nat → Prop) (Bs' : Nat → Nat → Prop) (cs' : Array Value) (rows' : Nat → List Value), Sub L' L ∧ Rel L' st' a w R' ∧ Instr.fill (fun i => some (i * s.size, s.size)) cs (parts.map fun p => (p.1, a.eval p.2)) = some cs' ∧ xs'.length = xs.length ∧ cs'.size = xs.length * s.size ∧
    (∀ i, i < xs.length → (rows' i).length = s.size ∧ (∀ j, j < s.size → cs'[i * s.size + j]? = (rows' i)[j]?) ∧ (∀ b, Bs' i b → R' b ∧ (Bs i b ∨ ∃ t, L.F t b)) ∧ Rep w L.Z s g (xs'.getD i s.zero) (rows' i) (Bs' i)) ∧
    (∀ i j b, i < xs.length → j < xs.length → i ≠ j → Bs' i b → Bs' j b → False) ∧ (noH st parts = true → st' = st)
 | [], L, st, R, Bs, xs, cs, rows, xs', st', h, hc, hr, hd, hf => by
  simp only [fillRow, Option.some.injEq, Prod.mk.injEq] at hf
  obtain ⟨rfl, rfl⟩ := hf
  exact ⟨L, R, Bs, cs, rows, Sub.refl L, h, rfl, rfl, hc, fun i hi => ⟨(hr i hi).1, (hr i hi).2.1, fun b hb => ⟨(hr i hi).2.2.1 b hb, .inl hb⟩, (hr i hi).2.2.2⟩, hd, fun _ => rfl⟩
 | (k, y) :: r, L, st, R, Bs, xs, cs, rows, xs', st', h, hc, hr, hd, hf => by
  simp only [fillRow] at hf
  split at hf
  ·rename_i f1 x1 st1 hgr
   split at hf
   ·rename_i hk
    obtain ⟨hk, hfl⟩ := hk
    obtain ⟨L1, B1, cs1, g1, g2, g3, g4, g5, g6, g7⟩ := h.grab (h.opnd y) hgr
    -- the element as it lies in the row
    have hel : ∃ B1' : Nat → Prop, (∀ b, B1' b → B1 b) ∧ Rep w L.Z s g x1 cs1 B1' := by
     simp only [Bool.or_eq_true] at hfl
     rcases hfl with hfl | hfl
     ·exact ⟨B1, fun _ h => h, g5.sub hfl⟩
     ·have hv := h.opnd y
      cases hpv : ref st y with
      | emp =>
       rw [hpv] at hgr hv
       simp only [V.grab] at hgr
       split at hgr
       ·rename_i hc
        obtain ⟨_, e2⟩ := Prod.mk.inj (Option.some.inj hgr)
        obtain ⟨rfl, _⟩ := Prod.mk.inj e2
        obtain ⟨A, hv⟩ := hv
        obtain ⟨rfl, hsl⟩ := hc
        have : cs1 = [.slice A 0 0] := by rw [← hv]; simpa [mkV] using g4
        subst this
        cases s with
        | sl e s0 =>
         refine ⟨Free, fun _ h => h.elim, ?_⟩
         rcases hg with rfl | rfl
         ·exact ⟨A, 0, rfl, by show (0 : Nat) ≤ 0; omega, by show (0 : Nat) ≤ _; omega, fun h => by simp [Sh.zero] at h⟩
         ·exact .inl ⟨A, rfl, rfl⟩
        | unit => cases hsl
        | int _ => cases hsl
        | bool => cases hsl
        | str => cases hsl
        | pr _ _ => cases hsl
       ·cases hgr
      | _ => rw [hpv] at hfl; cases hfl
    obtain ⟨B1', hB1, hel⟩ := hel
    have hfit : k * s.size + s.size ≤ cs.size := by rw [hc, ← Nat.succ_mul]; exact Nat.mul_le_mul_right _ hk
    have A1 : ∀ i, i < (xs.set k x1).length → ((fun i => if i = k then cs1 else rows i) i).length = s.size ∧ (∀ j, j < s.size → (wrArr cs (k * s.size) cs1)[i * s.size + j]? = ((fun i => if i = k then cs1 else rows i) i)[j]?) ∧ (∀ b, (fun i => if i = k then B1' else Bs i) i b → R b ∨ B1 b) ∧ Rep w L1.Z s g ((xs.set k x1).getD i s.zero) ((fun i => if i = k then cs1 else rows i) i) ((fun i => if i = k then B1' else Bs i) i) := by
     intro i hi
     rw [List.length_set] at hi
     rw [g1.Z]
     by_cases he : i = k
     ·subst he
      simp only [if_true]
      refine ⟨g5.len, fun j hj => wrArr_in _ _ _ _ (by rw [g5.len]; exact hfit) (by rw [g5.len]; exact hj), fun b hb => .inr (hB1 b hb), ?_⟩
      have : (xs.set i x1).getD i s.zero = x1 := by simp [List.getD_eq_getElem?_getD, hi]
      rw [this]; exact hel
     ·simp only [he, if_false]
      obtain ⟨q1, q2, q3, q4⟩ := hr i hi
      refine ⟨q1, fun j hj => ?_, fun b hb => .inl (q3 b hb), ?_⟩
      ·rw [← q2 j hj]
       refine wrArr_out _ _ _ _ ?_
       rw [g5.len]
       rcases Nat.lt_or_gt_of_ne he with hlt | hlt
       ·left
        exact Nat.lt_of_lt_of_le (Nat.add_lt_add_left hj _) (by rw [← Nat.succ_mul]; exact Nat.mul_le_mul_right _ hlt)
       ·right
        have : k * s.size + s.size ≤ i * s.size := by rw [← Nat.succ_mul]; exact Nat.mul_le_mul_right _ hlt
        omega
      ·have : (xs.set k x1).getD i s.zero = xs.getD i s.zero := by
        simp only [List.getD_eq_getElem?_getD]
        rw [List.getElem?_set_ne (by omega)]
       rw [this]; exact q4
    have A2 : ∀ i j b, i < (xs.set k x1).length → j < (xs.set k x1).length → i ≠ j → (fun i => if i = k then B1' else Bs i) i b → (fun i => if i = k then B1' else Bs i) j b → False := by
     intro i j b hi hj hij hb1 hb2
     rw [List.length_set] at hi hj
     split at hb1 <;> split at hb2
     ·omega
     ·exact (g3 b (hB1 b hb1)).1 ((hr j hj).2.2.1 b hb2)
     ·exact (g3 b (hB1 b hb2)).1 ((hr i hi).2.2.1 b hb1)
     ·exact hd i j b hi hj hij hb1 hb2
    obtain ⟨L2, R2, Bs2, cs2, rows2, k1, k2, k3, k4, k5, k6, k7, k8⟩ := run_fillRow hg hsz r (Bs := fun i => if i = k then B1' else Bs i) (cs := wrArr cs (k * s.size) cs1) (rows := fun i => if i = k then cs1 else rows i) (xs := xs.set k x1) g2 (by rw [wrArr_size, hc, List.length_set]) A1 A2 hf
    rw [List.length_set] at k4 k5 k6 k7
    refine ⟨L2, R2, Bs2, cs2, rows2, k1.trans g1, k2, ?_, k4, k5, fun i hi => ?_, k7, fun hn => ?_⟩
    ·rw [List.map_cons, fill_cons (off := k * s.size) (size := s.size) rfl (mkV_cells g4 g5.one) g5.len hfit]
     exact k3
    ·obtain ⟨q1, q2, q3, q4⟩ := k6 i hi
     refine ⟨q1, q2, fun b hb => ⟨(q3 b hb).1, ?_⟩, g1.Z ▸ q4⟩
     rcases (q3 b hb).2 with hb | ⟨t, hb⟩
     ·split at hb
      ·exact .inr (g3 b (hB1 b hb)).2
      ·exact .inl hb
     ·exact .inr (g1.F t b hb)
    ·simp only [noH, List.all_cons, Bool.and_eq_true, Bool.not_eq_true'] at hn
     have e1 := g7 hn.1
     subst e1
     exact k8 hn.2
   ·cases hf
  ·cases hf
theorem pop_buildSlice (hT : TabOk P T) (h : Rel L st a w Free) {t n : Nat} {parts : Array (Nat × Operand)} (ho : o.op = .buildSlice t n parts) (hp : pop T rt st o = some out) : out.c = true ∧ Goes P o a w L out.st out.pv ∧ (out.cl = true → out.st = st) := by
 unfold pop at hp
 rw [ho] at hp
 simp only at hp
 split at hp
 ·split at hp
  ·rename_i e s b nf fs cm hi0
   obtain ⟨hu, ti, z, i1, i2, i3, i4, i5⟩ := (hT t _ hi0).sl e s rfl rfl
   split at hp
   ·rename_i hem
    obtain rfl := (Option.some.inj hp)
    have hem : parts = #[] := by simpa [Array.isEmpty_iff] using hem
    subst hem
    refine ⟨rfl, goes_o (L1 := L) (v := .slice (some ⟨w.heap.size, 0, none⟩) 0 0) (w' := w.alloc (.cells #[] e)) ?_ (Stp.ext (Ext.alloc w _)) (h.grow (Ext.alloc w _)) rfl ⟨_, rfl⟩, fun _ => rfl⟩
    simp [execOp, ho, Instr.buildSlice, run_underlying hu, sizeOf, typeInfo, i1, Instr.fill, newRow, show Array.range 0 = #[] from rfl]
   ·cases hp
  ·cases hp
 ·rename_i hn0
  have hn0 : n ≠ 0 := fun e => hn0 e
  split at hp
  ·rename_i e s b nf fs cm hi0
   obtain ⟨hu, ti, z, i1, i2, i3, i4, i5⟩ := (hT t _ hi0).sl e s rfl rfl
   split at hp
   ·rename_i i hi
    split at hp
    ·rename_i hst
     obtain ⟨rfl, hsmall⟩ := hst
     split at hp
     ·rename_i xs st' hf
      obtain rfl := (Option.some.inj hp)
      have hzl := (Rep.zero w L.Z i.sh Free).len
      have hg : (if noH st parts.toList then Fl.fz else Fl.own) = .fz ∨ (if noH st parts.toList then Fl.fz else Fl.own) = .own := by split <;> simp
      obtain ⟨L', R', Bs', cs', rows', k1, k2, k3, k4, k5, k6, k7, k8⟩ := run_fillRow (a := a) (w := w) hg i5 parts.toList (Bs := fun _ _ => False) (cs := madeCells z.cells (n * i.sh.size)) (rows := fun _ => i.sh.encZ) h (by rw [size_madeCells, List.length_replicate]) (fun j hj => by
       rw [List.length_replicate] at hj
       refine ⟨hzl, fun q hq => zero_cells i4 hj hq hzl, fun b hb => hb.elim, ?_⟩
       have : (List.replicate n i.sh.zero).getD j i.sh.zero = i.sh.zero := by simp [List.getD_eq_getElem?_getD, hj]
       rw [this]
       rcases hg with e | e <;> rw [e]
       ·exact Rep.zeroF _ _ _ _
       ·exact Rep.zero _ _ _ _) (fun _ _ _ _ _ _ hb => hb.elim) hf
      rw [List.length_replicate] at k4 k5 k6 k7
      refine ⟨rfl, ?_, fun hcl => k8 hcl⟩
      have hpos : ¬ n * ti.size = 0 := by rw [i2]; intro e; rcases Nat.mul_eq_zero.1 e with e | e <;> omega
      have hr := run_buildSlice (P := P) w t e n (parts.map fun (i, x) => (i, a.eval x)) cs' ti z hu i1 i3 (by rw [i2]; omega) hpos (by rw [i2, Array.toList_map]; exact k3)
      have hold : ∀ j b, j < n → Bs' j b → b < w.heap.size ∧ ¬ L'.Z b ∧ ∀ t, ¬ L'.F t b := fun j b hj hb => by
       have hR := ((k6 j hj).2.2.1 b hb).1
       exact ⟨(k2.rlt b hR).1, (k2.rlt b hR).2, fun t ht => k2.rdj t b ht hR⟩
      refine goes_r (cs := [.slice (some ⟨w.heap.size, 0, none⟩) n n]) (ad := none) (B := fun b => (∃ j, j < n ∧ Bs' j b) ∨ b = w.heap.size) (Fd := fun b => (∃ j, j < n ∧ Bs' j b) ∨ b = w.heap.size) (v := .slice (some ⟨w.heap.size, 0, none⟩) n n) (w' := w.alloc (.cells cs' e)) ?_ ((Stp.sub k1 w).trans (Stp.ext (Ext.alloc w _))) (k2.grow (Ext.alloc w _)) ⟨rfl, fun _ => rfl, rfl⟩ (fun _ h => h) (fun A hA => by cases hA) ?_ (fun b hb => ?_) (fun b hb => ?_)
      ·simp [execOp, ho, hr]
      ·have row : ∀ f0 : Fl, (∀ j, j < n → Rep w L.Z i.sh f0 (xs.getD j i.sh.zero) (rows' j) (Bs' j)) → OwnR (w.alloc (.cells cs' e)) e i.sh.size (fun x c B' => Rep (w.alloc (.cells cs' e)) L'.Z i.sh f0 x c B') i.sh.zero xs [.slice (some ⟨w.heap.size, 0, none⟩) n n] (fun b => (∃ j, j < n ∧ Bs' j b) ∨ b = w.heap.size) := by
        intro f0 hrow
        refine .inr ⟨w.heap.size, n, cs', rows', Bs', by rw [k4], heap_alloc_new w _, by omega, ?_, k5, .inr rfl, fun j hj => ?_, fun a b c h1 h2 => k7 a b c (by omega) (by omega)⟩
        ·have : n ≤ n * i.sh.size := Nat.le_mul_of_pos_right _ i5
         simp only [maxLen]; omega
        ·rw [k4] at hj
         obtain ⟨q1, q2, q3, _⟩ := k6 j hj
         refine ⟨q1, q2, fun b hb => ⟨.inl ⟨j, hj, hb⟩, fun e => ?_⟩, ?_⟩
         ·have := (hold j b hj hb).1; omega
         ·rw [k1.Z]
          exact (hrow j hj).frame (fun _ h => h) (fun b hb => alloc_keep w _ b (by rcases hb with hb | hb; exact h.zlt b hb; exact (hold j b hj hb).1))
       by_cases hno : noH st parts.toList = true
       ·simp only [hno, if_true, Bool.not_true, Bool.or_false] at k6 ⊢
        by_cases hpl : i.sh.plain = true
        ·rw [if_pos hpl]
         exact row .own fun j hj => (k6 j hj).2.2.2.plain hpl
        ·rw [if_neg hpl]
         exact row .fz fun j hj => (k6 j hj).2.2.2
       ·have hno : noH st parts.toList = false := by simpa using hno
        simp only [hno, Bool.false_eq_true, if_false, Bool.not_false, Bool.or_true, if_true] at k6 ⊢
        exact row .own fun j hj => (k6 j hj).2.2.2
      ·rcases hb with ⟨j, hj, hb⟩ | hb
       ·obtain ⟨q1, q2, q3⟩ := hold j b hj hb
        exact ⟨by simp; omega, q2, q3⟩
       ·subst hb
        refine ⟨by simp, fun hz => ?_, fun t ht => ?_⟩
        ·have := k2.zlt _ hz; omega
        ·have := (k2.flt _ _ ht).1; omega
      ·rcases hb with ⟨j, hj, hb⟩ | hb
       ·rcases ((k6 j hj).2.2.1 b hb).2 with hb | hb
        ·exact hb.elim
        ·exact .inl hb
       ·exact .inr (by omega)
     ·cases hp
    ·cases hp
   ·cases hp
  ·cases hp
end
end Go.Proofs.YtoeblmcibheldaaGreatDoor.V
end
section
/- The operations together; and that a clean one reads its operands alone. No condition. -/
namespace Go.Proofs.YtoeblmcibheldaaGreatDoor.V
open Go Go.RowKit
section
variable {P : Program} {o : Oper} {L L1 : Lay} {st st1 : St} {a : Act} {w w' : World} {R : Nat → Prop} {T : List (Nat × TI)} {rt : St} {out : Out}
theorem pop_ok (hT : TabOk P T) (h : Rel L st a w Free) (hrt : ∀ g k s f x, rt.at g = .root k s f x → st.at g = .root k s f x) (hp : pop T rt st o = some out) (hc : out.c = true) : Goes P o a w L out.st out.pv ∧ (out.cl = true → out.st = st) := by
 have hsrc : ∀ t i, tget T t = some i → (P.underlying t).isSome = true := fun t i hi => (hT t i hi).isS
 cases ho : o.op with
 | move x => exact (pop_move h (.inl ho) hp).2
 | assign x => exact (pop_move h (.inr ho) hp).2
 | pick c x y => exact (pop_pick h ho hp).2
 | alloc t => exact (pop_alloc hT h ho hp).2
 | box t x => exact (pop_box hT h ho hp).2
 | build t ps => exact (pop_build hT h ho hp).2
 | buildSlice t n ps => exact (pop_buildSlice hT h ho hp).2
 | load t x => exact (pop_load hT h hrt ho hp).2
 | store t x y => exact (pop_store hT h ho hp).2
 | nilCheck x => exact (pop_nilCheck h ho hp).2
 | binOp op t x y t2 => exact pop_binOp hT h ho hp hc
 | unOp op t x => exact (pop_unOp h ho hp).2
 | convert s d x => exact (pop_convert hT hsrc h ho hp).2
 | makeFunc f first caps => cases f with
  | func f => exact (pop_makeFunc h ho hp).2
  | _ => unfold pop at hp; rw [ho] at hp; cases hp
 | makeSlice t l c => exact pop_makeSlice hT h ho hp hc
 | slice t x lo hi mx => cases mx with
  | none => exact pop_slice hT h ho hp hc
  | some m => unfold pop at hp; rw [ho] at hp; cases hp
 | fieldAddr t x n => exact (pop_fieldAddr hT h hrt ho hp).2
 | field t x n => exact (pop_field hT h hrt ho hp).2
 | indexAddr t x y => exact pop_indexAddr hT h hrt ho hp hc
 | index t x y => exact pop_index hT h ho hp hc
 | extract x n => cases x with
  | tmp t => exact (pop_extract h hrt ho hp).2
  | const c => unfold pop at hp; rw [ho] at hp; cases hp
  | func c => unfold pop at hp; rw [ho] at hp; cases hp
  | global c => unfold pop at hp; rw [ho] at hp; cases hp
 | call c =>
  obtain ⟨callee, args, ts⟩ := c
  cases callee with
  | builtin b => cases b with
   | len => exact (pop_len hT h hrt ho hp).2
   | min => exact (pop_min h ho hp).2
   | max => exact (pop_max h ho hp).2
   | append => exact pop_append hT h hrt ho hp hc
   | _ => unfold pop at hp; rw [ho] at hp; cases hp
  | _ => unfold pop at hp; rw [ho] at hp; cases hp
 | _ => unfold pop at hp; rw [ho] at hp; cases hp
end
/-- the temporaries that an operation reads -/
def reads (o : Oper) : List Nat := o.op.operands.toList.filterMap fun | .tmp t => some t | _ => none
section
variable {o : Oper} {st st' : St} {T : List (Nat × TI)} {rt : St} {out : Out}
theorem grab_nh {agg : Bool} {s : Sh} {pv : PV} (h : pv.isH = false) (st st' : St) : V.grab st' agg s pv = (V.grab st agg s pv).map fun q => (q.1, q.2.1, st') := by
 cases pv with
 | h => cases h
 | v agg' s' y =>
  simp only [V.grab]
  split
  ·cases castTo s' s y <;> rfl
  ·rfl
 | emp => simp only [V.grab]; split <;> rfl
 | _ => rfl
theorem fillSt_nh {n : Nat} {fs : List (Bool × Sh)} {s : Sh} : ∀ (parts : List (Nat × Operand)) {st st' : St}, (∀ p ∈ parts, ref st' p.2 = ref st p.2) → noH st parts = true → ∀ {f : Fl} {x : s.ty}, fillSt n fs parts st' s f x = (fillSt n fs parts st s f x).map fun q => (q.1, q.2.1, st')
 | [], st, st', _, _, f, x => rfl
 | (i, y) :: r, st, st', he, hn, f, x => by
  have e := he (i, y) List.mem_cons_self
  simp only [noH, List.all_cons, Bool.and_eq_true, Bool.not_eq_true'] at hn
  simp only [fillSt]
  cases hfs : fs[i]? with
  | none => rfl
  | some q =>
   obtain ⟨agg, s1⟩ := q
   simp only
   by_cases hi : i < n
   ·simp only [hi, if_true]
    rw [show ref st' y = ref st y from e, grab_nh hn.1 st st']
    have hst : ∀ q, V.grab st agg s1 (ref st y) = some q → q.2.2 = st := by
     intro q hq
     rw [grab_nh hn.1 st st] at hq
     cases hg : V.grab st agg s1 (ref st y) with
     | none => rw [hg] at hq; cases hq
     | some q' => rw [hg] at hq; exact congrArg (·.2.2) (Option.some.inj hq).symm
    cases hg : V.grab st agg s1 (ref st y) with
    | none => rfl
    | some q =>
     obtain ⟨f1, x1, st1⟩ := q
     have := hst _ hg
     simp only at this
     subst this
     simp only [Option.map_some]
     cases hu : upd s1 f1 x1 s f x (fpath i n) with
     | none => rfl
     | some q2 => exact fillSt_nh r (fun p hp => he p (List.mem_cons_of_mem _ hp)) hn.2
   ·simp only [hi, if_false, Option.map_none]
theorem fillRow_nh {agg : Bool} {s : Sh} {g : Fl} : ∀ (parts : List (Nat × Operand)) {st st' : St}, (∀ p ∈ parts, ref st' p.2 = ref st p.2) → noH st parts = true → ∀ {xs : List s.ty}, fillRow agg s g parts st' xs = (fillRow agg s g parts st xs).map fun q => (q.1, st')
 | [], st, st', _, _, xs => rfl
 | (i, y) :: r, st, st', he, hn, xs => by
  have e := he (i, y) List.mem_cons_self
  simp only [noH, List.all_cons, Bool.and_eq_true, Bool.not_eq_true'] at hn
  simp only [fillRow]
  rw [show ref st' y = ref st y from e, grab_nh hn.1 st st']
  have hst : ∀ q, V.grab st agg s (ref st y) = some q → q.2.2 = st := by
   intro q hq
   rw [grab_nh hn.1 st st] at hq
   cases hg : V.grab st agg s (ref st y) with
   | none => rw [hg] at hq; cases hq
   | some q' => rw [hg] at hq; exact congrArg (·.2.2) (Option.some.inj hq).symm
  cases hg : V.grab st agg s (ref st y) with
  | none => rfl
  | some q =>
   obtain ⟨f1, x1, st1⟩ := q
   have := hst _ hg
   simp only at this
   subst this
   simp only [Option.map_some]
   split
   ·exact fillRow_nh r (fun p hp => he p (List.mem_cons_of_mem _ hp)) hn.2
   ·rfl
theorem mem_reads {t : Nat} (h : Operand.tmp t ∈ o.op.operands.toList) : t ∈ reads o := List.mem_filterMap.2 ⟨_, h, rfl⟩
theorem ref_eq (h : ∀ t ∈ reads o, st'.at t = st.at t) {x : Operand} (hx : x ∈ o.op.operands.toList) : ref st' x = ref st x ∧ ev st' x = ev st x := by
 cases x with
 | tmp t => have e := h t (mem_reads hx); simp only [ref, ev, e]; exact ⟨trivial, trivial⟩
 | const c => exact ⟨rfl, rfl⟩
 | func f => exact ⟨rfl, rfl⟩
 | global g => exact ⟨rfl, rfl⟩
theorem capsOf_eq : ∀ (xs : List Operand), (∀ x ∈ xs, ref st' x = ref st x) → capsOf st' xs = capsOf st xs
 | [], _ => rfl
 | x :: r, h => by simp only [capsOf, cOf, h x List.mem_cons_self, capsOf_eq r fun y hy => h y (List.mem_cons_of_mem _ hy)]
theorem noH_eq (xs : List (Nat × Operand)) (h : ∀ p ∈ xs, ref st' p.2 = ref st p.2) : noH st' xs = noH st xs := by
 unfold noH
 rw [Bool.eq_iff_iff, List.all_eq_true, List.all_eq_true]
 exact ⟨fun k p hp => by rw [← h p hp]; exact k p hp, fun k p hp => by rw [h p hp]; exact k p hp⟩
theorem bound_eq {d : Int} {y : Option Operand} (h : ∀ x, y = some x → ref st' x = ref st x) : bound st' d y = bound st d y := by
 cases y with
 | none => rfl
 | some y => simp only [bound, h y rfl]
theorem pop_loc (hp : pop T rt st o = some out) (hcl : out.cl = true) (h : ∀ t ∈ reads o, st'.at t = st.at t) : pop T rt st' o = some ⟨out.c, true, st', out.pv⟩ := by
 have hr : ∀ x, x ∈ o.op.operands.toList → ref st' x = ref st x := fun x hx => (ref_eq h hx).1
 cases ho : o.op with
 | move x =>
  have e1 := hr x (by simp [ho, Op.operands])
  by_cases hsome : (moveTup st x).isSome = true
  ·obtain ⟨y, hq⟩ := Option.isSome_iff_exists.1 hsome
   unfold pop at hp
   simp only [ho, hq] at hp
   obtain rfl := Option.some.inj hp
   cases x with
   | tmp t =>
    have ht : st'.at t = st.at t := h t (by simp [reads, ho, Op.operands])
    unfold moveTup at hq
    simp only at hq
    split at hq
    ·rename_i ag s f x hg
     by_cases hpl : s.plain = true
     ·rw [if_pos hpl] at hq
      obtain rfl := Option.some.inj hq
      unfold pop
      simp only [ho, moveTup, ht, hg, if_pos hpl]
     ·rw [if_neg hpl] at hq
      obtain rfl := Option.some.inj hq
      cases hcl
    ·cases hq
   | _ => cases hq
  have hmt : moveTup st x = none := by
   cases hq : moveTup st x with
   | none => rfl
   | some y => rw [hq] at hsome; exact absurd rfl hsome
  have hmt' : moveTup st' x = none := by
   cases x with
   | tmp t =>
    have ht : st'.at t = st.at t := h t (by simp [reads, ho, Op.operands])
    unfold moveTup at hmt ⊢
    simp only [ht]
    split
    ·rename_i e; simp only [e] at hmt; cases hmt
    ·rfl
   | _ => rfl
  unfold pop at hp ⊢
  simp only [ho, e1, hmt, hmt'] at hp ⊢
  repeat' split at hp
  all_goals first | (cases hp; done) | (obtain rfl := Option.some.inj hp; first | rfl | (simp_all; done) | (simp_all; rfl))
 | assign x =>
  have e1 := hr x (by simp [ho, Op.operands])
  unfold pop at hp ⊢
  simp only [ho, e1] at hp ⊢
  repeat' split at hp
  all_goals first | (cases hp; done) | (obtain rfl := Option.some.inj hp; first | rfl | (simp_all; done) | (simp_all; rfl))
 | pick c x y =>
  have e0 := (ref_eq h (x := c) (by simp [ho, Op.operands])).2
  have e1 := hr x (by simp [ho, Op.operands])
  have e2 := hr y (by simp [ho, Op.operands])
  unfold pop at hp ⊢
  simp only [ho, e0, e1, e2] at hp ⊢
  repeat' split at hp
  all_goals first | (cases hp; done) | (obtain rfl := Option.some.inj hp; first | rfl | (simp_all; done) | (simp_all; rfl))
 | alloc t =>
  unfold pop at hp ⊢
  simp only [ho] at hp ⊢
  repeat' split at hp
  all_goals first | (cases hp; done) | (obtain rfl := Option.some.inj hp; first | rfl | (simp_all; done) | (simp_all; rfl))
 | box t x =>
  have e1 := hr x (by simp [ho, Op.operands])
  unfold pop at hp ⊢
  simp only [ho, e1] at hp ⊢
  split at hp
  ·rename_i i hi
   split at hp
   ·rename_i f y st1 hg
    obtain rfl := Option.some.inj hp
    have hn : (ref st x).isH = false := by simpa using hcl
    rw [grab_nh hn st st', hg]
    simp [hn]
   ·cases hp
  ·cases hp
 | build t ps =>
  have e1 : ∀ p ∈ ps.toList, ref st' p.2 = ref st p.2 := fun p hp => hr p.2 (by simp only [ho, Op.operands]; exact List.mem_map_of_mem hp)
  unfold pop at hp ⊢
  simp only [ho] at hp ⊢
  split at hp
  ·rename_i i hi
   split at hp
   ·rename_i hag
    split at hp
    ·rename_i f y st1 hg
     obtain rfl := Option.some.inj hp
     have hn : noH st ps.toList = true := hcl
     simp only [hag, if_true]
     rw [fillSt_nh _ e1 hn, hg]
     simp [noH_eq _ e1, hn]
    ·cases hp
   ·cases hp
  ·cases hp
 | buildSlice t n ps =>
  have e1 : ∀ p ∈ ps.toList, ref st' p.2 = ref st p.2 := fun p hp => hr p.2 (by simp only [ho, Op.operands]; exact List.mem_map_of_mem hp)
  unfold pop at hp ⊢
  simp only [ho] at hp ⊢
  cases n with
  | zero =>
   simp only at hp ⊢
   repeat' split at hp
   all_goals first | (cases hp; done) | (obtain rfl := Option.some.inj hp; first | rfl | (simp_all; done) | (simp_all; rfl))
  | succ n =>
   simp only at hp ⊢
   split at hp
   ·split at hp
    ·rename_i i hi
     split at hp
     ·rename_i hst
      split at hp
      ·rename_i xs st1 hg
       obtain rfl := Option.some.inj hp
       have hn : noH st ps.toList = true := hcl
       rw [if_pos hst, noH_eq _ e1, fillRow_nh _ e1 hn, hg]
       simp [hn]
      ·cases hp
     ·cases hp
    ·cases hp
   ·cases hp
 | load t x =>
  have e1 := hr x (by simp [ho, Op.operands])
  unfold pop at hp ⊢
  simp only [ho, e1] at hp ⊢
  repeat' split at hp
  all_goals first | (cases hp; done) | (obtain rfl := Option.some.inj hp; first | rfl | (simp_all; done) | (simp_all; rfl))
 | store t x y =>
  unfold pop at hp
  rw [ho] at hp
  simp only at hp
  repeat' split at hp
  all_goals first | (cases hp; done) | (obtain rfl := Option.some.inj hp; cases hcl)
 | nilCheck x =>
  have e1 := hr x (by simp [ho, Op.operands])
  unfold pop at hp ⊢
  simp only [ho, e1] at hp ⊢
  repeat' split at hp
  all_goals first | (cases hp; done) | (obtain rfl := Option.some.inj hp; first | rfl | (simp_all; done) | (simp_all; rfl))
 | binOp op t x y t2 =>
  have e1 := hr x (by simp [ho, Op.operands])
  have e2 := hr y (by simp [ho, Op.operands])
  unfold pop at hp ⊢
  simp only [ho, e1, e2] at hp ⊢
  repeat' split at hp
  all_goals first | (cases hp; done) | (obtain rfl := Option.some.inj hp; first | rfl | (simp_all; done) | (simp_all; rfl))
 | unOp op t x =>
  have e1 := hr x (by simp [ho, Op.operands])
  unfold pop at hp ⊢
  simp only [ho, e1] at hp ⊢
  repeat' split at hp
  all_goals first | (cases hp; done) | (obtain rfl := Option.some.inj hp; first | rfl | (simp_all; done) | (simp_all; rfl))
 | convert s d x =>
  have e1 := hr x (by simp [ho, Op.operands])
  unfold pop at hp ⊢
  simp only [ho, e1] at hp ⊢
  repeat' split at hp
  all_goals first | (cases hp; done) | (obtain rfl := Option.some.inj hp; first | rfl | (simp_all; done) | (simp_all; rfl))
 | makeFunc f first caps => cases f with
  | func f =>
   have e1 := capsOf_eq (st := st) (st' := st') caps.toList (fun x hx => hr x (by simp only [ho, Op.operands, Array.toList_append]; exact List.mem_append_right _ hx))
   unfold pop at hp ⊢
   simp only [ho, e1] at hp ⊢
   repeat' split at hp
   all_goals first | (cases hp; done) | (obtain rfl := Option.some.inj hp; first | rfl | (simp_all; done) | (simp_all; rfl))
  | _ => unfold pop at hp; rw [ho] at hp; cases hp
 | makeSlice t l c =>
  have e1 := hr l (by simp [ho, Op.operands])
  have e2 := hr c (by simp [ho, Op.operands])
  unfold pop at hp ⊢
  simp only [ho, e1, e2] at hp ⊢
  repeat' split at hp
  all_goals first | (cases hp; done) | (obtain rfl := Option.some.inj hp; first | rfl | (simp_all; done) | (simp_all; rfl))
 | slice t x lo hi mx => cases mx with
  | none =>
   have e1 := hr x (by simp [ho, Op.operands])
   have e2 : ∀ d, bound st' d lo = bound st d lo := fun d => bound_eq fun y hy => hr y (by simp [ho, Op.operands, hy])
   have e3 : ∀ d, bound st' d hi = bound st d hi := fun d => bound_eq fun y hy => hr y (by simp [ho, Op.operands, hy])
   unfold pop at hp ⊢
   simp only [ho, e1, e2, e3] at hp ⊢
   repeat' split at hp
   all_goals first | (cases hp; done) | (obtain rfl := Option.some.inj hp; first | rfl | (simp_all; done) | (simp_all; rfl))
  | some m => unfold pop at hp; rw [ho] at hp; cases hp
 | fieldAddr t x n =>
  have e1 := hr x (by simp [ho, Op.operands])
  unfold pop at hp ⊢
  simp only [ho, e1] at hp ⊢
  repeat' split at hp
  all_goals first | (cases hp; done) | (obtain rfl := Option.some.inj hp; first | rfl | (simp_all; done) | (simp_all; rfl))
 | field t x n =>
  have e1 := hr x (by simp [ho, Op.operands])
  unfold pop at hp ⊢
  simp only [ho, e1] at hp ⊢
  repeat' split at hp
  all_goals first | (cases hp; done) | (obtain rfl := Option.some.inj hp; first | rfl | (simp_all; done) | (simp_all; rfl) | (simp_all; rename_i hh; obtain ⟨rfl, _, _, hh⟩ := hh; intro a b; simpa [a, b] using hh))
 | indexAddr t x y =>
  have e1 := hr x (by simp [ho, Op.operands])
  have e2 := hr y (by simp [ho, Op.operands])
  unfold pop at hp ⊢
  simp only [ho, e1, e2] at hp ⊢
  repeat' split at hp
  all_goals first | (cases hp; done) | (obtain rfl := Option.some.inj hp; first | rfl | (simp_all; done) | (simp_all; rfl))
 | index t x y =>
  have e1 := hr x (by simp [ho, Op.operands])
  have e2 := hr y (by simp [ho, Op.operands])
  unfold pop at hp ⊢
  simp only [ho, e1, e2] at hp ⊢
  split at hp
  ·split at hp
   ·obtain rfl := Option.some.inj hp
    first | rfl | (simp_all; done) | (simp_all; rfl)
   ·cases hp
  ·cases hp
 | extract x n => cases x with
  | tmp t =>
   unfold pop at hp ⊢
   simp only [ho] at hp ⊢
   repeat' split at hp
   all_goals first | (cases hp; done) | (obtain rfl := Option.some.inj hp; first | rfl | (simp_all; done) | (simp_all; rfl))
  | const c => unfold pop at hp; rw [ho] at hp; cases hp
  | func c => unfold pop at hp; rw [ho] at hp; cases hp
  | global c => unfold pop at hp; rw [ho] at hp; cases hp
 | call c =>
  obtain ⟨callee, args, ts⟩ := c
  have hm : ∀ x ∈ args.toList, ref st' x = ref st x := fun x hx => hr x (by simp only [ho, Op.operands, Call.operands]; first | exact hx | (cases callee <;> simp_all))
  cases callee with
  | builtin b => cases b with
   | len =>
    unfold pop at hp ⊢
    simp only [ho] at hp ⊢
    split at hp
    ·rename_i x t ha ht
     rw [hm x (by rw [ha]; simp)]
     try simp only [ha, ht]
     repeat' split at hp
     all_goals first | (cases hp; done) | (obtain rfl := Option.some.inj hp; first | rfl | (simp_all; done) | (simp_all; rfl))
    ·cases hp
   | min =>
    unfold pop at hp ⊢
    simp only [ho] at hp ⊢
    split at hp
    ·rename_i x y ha
     rw [hm x (by rw [ha]; simp), hm y (by rw [ha]; simp)]
     try simp only [ha]
     split at hp
     ·obtain rfl := Option.some.inj hp
      first | rfl | (simp_all; done) | (simp_all; rfl)
     ·cases hp
    ·cases hp
   | max =>
    unfold pop at hp ⊢
    simp only [ho] at hp ⊢
    split at hp
    ·rename_i x y ha
     rw [hm x (by rw [ha]; simp), hm y (by rw [ha]; simp)]
     try simp only [ha]
     split at hp
     ·obtain rfl := Option.some.inj hp
      first | rfl | (simp_all; done) | (simp_all; rfl)
     ·cases hp
    ·cases hp
   | append =>
    unfold pop at hp ⊢
    simp only [ho] at hp ⊢
    split at hp
    ·rename_i x y t t' ha ht
     rw [hm x (by rw [ha]; simp), hm y (by rw [ha]; simp)]
     try simp only [ha, ht]
     split at hp
     ·split at hp
      ·rename_i i hi
       split at hp
       ·rename_i hst
        rw [if_pos hst]
        split at hp
        ·rename_i hpl
         rw [if_pos hpl]
         split at hp
         ·rename_i ys hys
          split at hp
          ·rename_i xs st1 hhd
           obtain rfl := Option.some.inj hp
           have hn : (ref st x).isH = false := by simpa using hcl
           have he : ref st x = .emp := by
            cases hx : ref st x with
            | emp => rfl
            | h => rw [hx] at hn; cases hn
            | _ => rw [hx] at hhd; simp [headRow] at hhd
           rw [he] at hhd ⊢
           simp only [headRow, Option.some.injEq, Prod.mk.injEq] at hhd ⊢
           obtain ⟨rfl, rfl⟩ := hhd
           simp [PV.isH]
          ·cases hp
         ·cases hp
        ·repeat' split at hp
         all_goals first | (cases hp; done) | (obtain rfl := Option.some.inj hp; cases hcl)
       ·cases hp
      ·cases hp
     ·cases hp
    ·cases hp
   | _ => unfold pop at hp; rw [ho] at hp; cases hp
  | _ => unfold pop at hp; rw [ho] at hp; cases hp
 | _ => unfold pop at hp; rw [ho] at hp; cases hp
end
end Go.Proofs.YtoeblmcibheldaaGreatDoor.V
end
section
/- Calls: what a function of the program does, told over typed values; and one step of a region. No condition. -/
namespace Go.Proofs.YtoeblmcibheldaaGreatDoor.V
open Go Go.RowKit
/-- a value in frozen memory -/
def ARep (w : World) (Z : Nat → Prop) : PV → Value → Prop
 | .v agg s x, v => ∃ cs, mkV agg cs v ∧ Rep w Z s .fz x cs (fun _ => False)
 | .emp, v => ∃ A, v = .slice A 0 0
 | .fadr s x, v => FaRep w Z s x v
 | .fn f caps, v => ∃ vs : List Value, v = .func (.func f) #[] vs.toArray ∧ vs.length = caps.length ∧ ∀ (i : Nat) (c : Cap) (u : Value), caps[i]? = some c → vs[i]? = some u → ∃ s x, c = .fadr s x ∧ FaRep w Z s x u
 | _, _ => False
/-- memory handed over, or a value in frozen memory -/
def GRep (w : World) (Z F : Nat → Prop) : PV → Value → Prop
 | .root k s f x, v => ∃ cs ad, ∃ B : Nat → Prop, RootAt w k s v cs ad ∧ (∀ b, B b → F b) ∧ (∀ A, ad = some A → ¬ B A.block ∧ F A.block) ∧ Rep w Z s f x cs B
 | pv, v => ARep w Z pv v
/-- the frozen zone behind a call: what was, and what is new or was handed over (F) -/
structure ZUp (w w' : World) (Z F Z' : Nat → Prop) : Prop where
 up : ∀ b, Z b → Z' b
 nw : ∀ b, Z' b → Z b ∨ ((F b ∨ w.heap.size ≤ b) ∧ b < w'.heap.size)
theorem ZUp.refl {w w' : World} {Z F : Nat → Prop} : ZUp w w' Z F Z := ⟨fun _ h => h, fun _ h => .inl h⟩
def NewIn (w w' : World) (Z : Nat → Prop) (b : Nat) : Prop := (w.heap.size ≤ b ∧ b < w'.heap.size) ∧ ¬ Z b
/-- a result: frozen, or new and the receiver's own; new memory may be frozen for good -/
def FRes (w w' : World) (Z : Nat → Prop) (pv : PV) (v : Value) : Prop := ∃ Z', ZUp w w' Z (fun _ => False) Z' ∧ GRep w' Z' (NewIn w w' Z') pv v
theorem FRes.same {w w' : World} {Z : Nat → Prop} {pv : PV} {v : Value} (hn : pv.isRoot = false) (h : ARep w' Z pv v) : FRes w w' Z pv v := ⟨Z, .refl, by cases pv <;> first | exact h | cases hn⟩
/-- the function, called with such arguments, returns one of the results told, and changes nothing that stood -/
structure VC (P : Program) (f : FuncId) (args : List PV) (R : PV → Prop) : Prop where
 fn : ∃ fn, P.funcs[f]? = some fn ∧ fn.body.isSome = true ∧ (fn.name == "runtime.NumGoroutine") = false
 run : ∀ (Z : Nat → Prop) (w : World) (vals : List Value), ZOk Z w → vals.length = args.length → (∀ (i : Nat) (pv : PV) (v : Value), args[i]? = some pv → vals[i]? = some v → ARep w Z pv v) →
  Calls P f vals.toArray w fun e w' => ∃ v pv, e = .returned v ∧ Ext w w' ∧ R pv ∧ FRes w w' Z pv v
theorem VC.mono {P : Program} {f : FuncId} {args : List PV} {R R' : PV → Prop} (h : VC P f args R) (k : ∀ pv, R pv → R' pv) : VC P f args R' :=
 ⟨h.fn, fun Z w vals h1 h2 h3 => (h.run Z w vals h1 h2 h3).mono fun e w' ⟨v, pv, q1, q2, q3, q4⟩ => ⟨v, pv, q1, q2, k pv q3, q4⟩⟩
/-- what is handed to a call that reads it -/
def lendCap (rt : St) : Cap → Option (PV × Bool)
 | .fadr s x => some (.fadr s x, false)
 | .adr g p => match look rt g p with
  | some ⟨s, f, x⟩ => if Fl.sound s f = true then some (.fadr s x, true) else none
  | none => none
def lendCaps (rt : St) : List Cap → Option (List Cap)
 | [] => some []
 | c :: r => match lendCap rt c, lendCaps rt r with
  | some (.fadr s x, _), some cs => some (.fadr s x :: cs)
  | _, _ => none
def isAdr : Cap → Bool
 | .adr .. => true
 | _ => false
theorem lendCaps_all (rt : St) : ∀ (caps : List Cap), caps.any isAdr = false → lendCaps rt caps = some caps
 | [], _ => rfl
 | .fadr s x :: r, h => by
  simp only [List.any_cons, Bool.or_eq_false_iff] at h
  simp only [lendCaps, lendCap, lendCaps_all rt r h.2]
 | .adr g p :: r, h => by simp [isAdr] at h
def lend (rt : St) : PV → Option (PV × Bool)
 | .v agg s x => some (.v agg s x, false)
 | .emp => some (.emp, false)
 | .fadr s x => some (.fadr s x, false)
 | .h agg g p => match look rt g p with
  | some ⟨s, f, x⟩ => if Fl.sound s f = true then some (.v agg s x, true) else none
  | none => none
 | .adr g p => lendCap rt (.adr g p)
 | .fn f caps => match lendCaps rt caps with
  | some cs => some (.fn f cs, caps.any isAdr)
  | none => none
 | _ => none
def lendAll (rt st : St) : List Operand → Option (List PV × Bool)
 | [] => some ([], false)
 | x :: r => match lend rt (ref st x), lendAll rt st r with
  | some (pv, b), some (ps, c) => some (pv :: ps, b || c)
  | _, _ => none
def capPV : Cap → PV
 | .fadr s x => .fadr s x
 | .adr g p => .adr g p
/-- nothing frozen in it -/
def Fl.nofz : Sh → Fl → Bool
 | .sl _ s, f => match f with
  | .own => true
  | .ownf => s.plain
  | .io _ _ => true
  | .junk => true
  | _ => false
 | .pr a b, f => Fl.nofz a f.l && Fl.nofz b f.r
 | _, _ => true
/-- what may come back from a call to which something was lent -/
def okRes (lent : Bool) : PV → Bool
 | .root _ s f _ => !lent || Fl.nofz s f
 | .v _ s _ => !lent || s.plain
 | .emp => true
 | _ => !lent
theorem Rep.nofz {w : World} {Z Z' : Nat → Prop} : ∀ {s : Sh} {f : Fl} {x : s.ty} {cs : List Value} {B : Nat → Prop}, Fl.nofz s f = true → Rep w Z s f x cs B → Rep w Z' s f x cs B
 | .unit, _, _, _, _, _, h => h
 | .int _, _, _, _, _, _, h => h
 | .bool, _, _, _, _, _, h => h
 | .str, _, _, _, _, _, h => h
 | .pr a b, f, x, cs, B, k, ⟨c1, c2, B1, B2, h1, h2, h3, h4, h5, h6⟩ => by
  simp only [Fl.nofz, Bool.and_eq_true] at k
  exact ⟨c1, c2, B1, B2, h1, h2, h3, h4, h5.nofz k.1, h6.nofz k.2⟩
 | .sl e s, f, x, cs, B, k, h => by
  cases f with
  | own =>
   have own : ∀ s : Sh, Fl.nofz s .own = true := by
    intro s
    induction s with
    | pr a b h1 h2 => simp only [Fl.nofz, Fl.l, Fl.r, h1, h2, Bool.and_self]
    | _ => rfl
   exact OwnR.imp h fun i c B' _ hr => hr.nofz (own s)
  | ownf => exact OwnR.imp h fun i c B' _ hr => hr.plain k
  | io n c =>
   have own : ∀ s : Sh, Fl.nofz s .own = true := by
    intro s
    induction s with
    | pr a b h1 h2 => simp only [Fl.nofz, Fl.l, Fl.r, h1, h2, Bool.and_self]
    | _ => rfl
   exact ⟨OwnR.imp h.1 fun i c B' _ hr => hr.nofz (own s), h.2⟩
  | junk => exact h
  | kz A c => simp [Fl.nofz] at k
  | fz => simp [Fl.nofz] at k
  | pr => simp [Fl.nofz] at k
section
variable {P : Program} {o : Oper} {L L1 : Lay} {st st1 : St} {a : Act} {w w' : World} {R : Nat → Prop} {T : List (Nat × TI)} {rt : St} {out : Out}
/-- the zone that a call reads -/
def zoneOf (L : Lay) (lent : Bool) (b : Nat) : Prop := L.Z b ∨ (lent = true ∧ ∃ t, L.F t b)
theorem zone_mono {b c : Bool} (h : b = true → c = true) (L : Lay) : ∀ n, zoneOf L b n → zoneOf L c n := fun n k => k.imp id fun q => ⟨h q.1, q.2⟩
theorem ARep.mono {Z Z' : Nat → Prop} (hz : ∀ b, Z b → Z' b) : ∀ {pv : PV} {v : Value}, ARep w Z pv v → ARep w Z' pv v
 | .v agg s x, v, ⟨cs, h1, h2⟩ => ⟨cs, h1, h2.frame hz (fun _ _ => rfl)⟩
 | .emp, v, h => h
 | .fadr s x, v, h => FaRep.ext hz (fun _ _ => rfl) h
 | .fn f caps, v, ⟨vs, h1, h2, h3⟩ => ⟨vs, h1, h2, fun i c u hc hu => by obtain ⟨s, x, e, q⟩ := h3 i c u hc hu; exact ⟨s, x, e, FaRep.ext hz (fun _ _ => rfl) q⟩⟩
 | .dead, _, h => h
 | .h .., _, h => h
 | .adr .., _, h => h
 | .root .., _, h => h
theorem lent_fadr (h : Rel L st a w R) (hrt : ∀ g k s f x, rt.at g = .root k s f x → st.at g = .root k s f x) {g : Nat} {p : Path} {s1 : Sh} {cs1 : List Value} {A : Addr} (hp : Place L st w g p s1 cs1 (some A)) {s : Sh} {f : Fl} {x : s.ty} (hl : look rt g p = some ⟨s, f, x⟩) (hf : Fl.sound s f = true) : FaRep w (zoneOf L true) s x (.pointer (some A)) := by
 have hl' := look_rt hrt hl
 obtain rfl := hp.shape hl'
 obtain ⟨q1, q2, B1, q3, q4⟩ := h.place hp hl'
 exact ⟨A, cs1, rfl, q4.len, .inr ⟨rfl, g, q2 A rfl⟩, fun j hj => q1 A rfl j (by rw [q4.len]; exact hj), q4.freeze (fun b hb => .inl hb) hf (fun b hb => .inr ⟨rfl, g, q3 b hb⟩)⟩
theorem lendCap_ok (h : Rel L st a w R) (hrt : ∀ g k s f x, rt.at g = .root k s f x → st.at g = .root k s f x) {c : Cap} {v : Value} (hv : CapRep L st w c v) {pv : PV} {b : Bool} (hl : lendCap rt c = some (pv, b)) : ∃ s x, pv = .fadr s x ∧ FaRep w (zoneOf L b) s x v := by
 cases c with
 | fadr s x =>
  obtain ⟨rfl, rfl⟩ := Prod.mk.inj (Option.some.inj hl)
  exact ⟨s, x, rfl, FaRep.ext (fun b hb => .inl hb) (fun _ _ => rfl) hv⟩
 | adr g p =>
  simp only [lendCap] at hl
  split at hl
  ·rename_i s f x hlk
   split at hl
   ·rename_i hf
    obtain ⟨rfl, rfl⟩ := Prod.mk.inj (Option.some.inj hl)
    obtain ⟨s1, cs1, A, q1, rfl⟩ := hv
    exact ⟨s, x, rfl, lent_fadr h hrt q1 hlk hf⟩
   ·cases hl
  ·cases hl
theorem lendCaps_ok (h : Rel L st a w R) (hrt : ∀ g k s f x, rt.at g = .root k s f x → st.at g = .root k s f x) : ∀ (caps : List Cap) {cs : List Cap}, lendCaps rt caps = some cs → cs.length = caps.length ∧ ∀ (i : Nat) (c : Cap), cs[i]? = some c → ∃ s x, c = .fadr s x ∧ ∀ c0, caps[i]? = some c0 → ∀ v, CapRep L st w c0 v → FaRep w (zoneOf L (caps.any isAdr)) s x v
 | [], cs, hl => by obtain rfl := Option.some.inj hl; exact ⟨rfl, fun i c hc => by simp at hc⟩
 | c :: r, cs, hl => by
  simp only [lendCaps] at hl
  split at hl
  ·rename_i s x b cs' h1 h2
   obtain rfl := Option.some.inj hl
   obtain ⟨q1, q2⟩ := lendCaps_ok h hrt r h2
   refine ⟨by simp [q1], fun i c' hc => ?_⟩
   cases i with
   | zero =>
    simp only [List.getElem?_cons_zero, Option.some.injEq] at hc
    subst hc
    refine ⟨s, x, rfl, fun c0 hc0 v hv => ?_⟩
    simp only [List.getElem?_cons_zero, Option.some.injEq] at hc0
    subst hc0
    obtain ⟨s', x', e, q⟩ := lendCap_ok h hrt hv h1
    obtain ⟨rfl, rfl⟩ : s = s' ∧ HEq x x' := by injection e with e1 e2; exact ⟨e1, e2⟩
    refine FaRep.ext (fun n hn => ?_) (fun _ _ => rfl) q
    refine zone_mono (fun hb => ?_) L n hn
    subst hb
    cases c with
    | adr => simp [isAdr]
    | fadr => simp [lendCap] at h1
   | succ i =>
    simp only [List.getElem?_cons_succ] at hc
    obtain ⟨s', x', e, q⟩ := q2 i c' hc
    refine ⟨s', x', e, fun c0 hc0 v hv => ?_⟩
    simp only [List.getElem?_cons_succ] at hc0
    exact FaRep.ext (fun n hn => zone_mono (fun hb => by simp only [List.any_cons, hb, Bool.or_true]) L n hn) (fun _ _ => rfl) (q c0 hc0 v hv)
  ·cases hl
theorem lend_ok (h : Rel L st a w R) (hrt : ∀ g k s f x, rt.at g = .root k s f x → st.at g = .root k s f x) {pv0 : PV} {v : Value} (hv : ORep L st w pv0 v) {pv : PV} {b : Bool} (hl : lend rt pv0 = some (pv, b)) : ARep w (zoneOf L b) pv v := by
 cases pv0 with
 | v agg s x =>
  obtain ⟨rfl, rfl⟩ := Prod.mk.inj (Option.some.inj hl)
  exact ARep.mono (Z := L.Z) (fun b hb => .inl hb) hv
 | emp =>
  obtain ⟨rfl, rfl⟩ := Prod.mk.inj (Option.some.inj hl)
  exact hv
 | fadr s x =>
  obtain ⟨rfl, rfl⟩ := Prod.mk.inj (Option.some.inj hl)
  exact ARep.mono (Z := L.Z) (pv := .fadr s x) (fun b hb => .inl hb) hv
 | h agg g p =>
  simp only [lend] at hl
  split at hl
  ·rename_i s f x hlk
   split at hl
   ·rename_i hf
    obtain ⟨rfl, rfl⟩ := Prod.mk.inj (Option.some.inj hl)
    obtain ⟨s1, cs1, ad1, q1, q2, _⟩ := hv
    have hl' := look_rt hrt hlk
    obtain rfl := q1.shape hl'
    obtain ⟨m1, m2, B1, m3, m4⟩ := h.place q1 hl'
    exact ⟨cs1, q2, m4.freeze (fun b hb => .inl hb) hf (fun b hb => .inr ⟨rfl, g, m3 b hb⟩)⟩
   ·cases hl
  ·cases hl
 | adr g p =>
  obtain ⟨s, x, rfl, q⟩ := lendCap_ok (c := .adr g p) h hrt hv hl
  exact q
 | fn f caps =>
  simp only [lend] at hl
  split at hl
  ·rename_i cs hcs
   obtain ⟨rfl, rfl⟩ := Prod.mk.inj (Option.some.inj hl)
   obtain ⟨vs, q1, q2, q3⟩ := hv
   obtain ⟨m1, m2⟩ := lendCaps_ok h hrt caps hcs
   refine ⟨vs, q1, by omega, fun i c u hc hu => ?_⟩
   obtain ⟨s, x, e, m3⟩ := m2 i c hc
   have hlt : i < caps.length := by rw [← m1]; exact (List.getElem?_eq_some_iff.1 hc).1
   exact ⟨s, x, e, m3 _ (List.getElem?_eq_getElem hlt) u (q3 i _ u (List.getElem?_eq_getElem hlt) hu)⟩
  ·cases hl
 | dead => cases hl
 | root => cases hl
theorem lendAll_ok (h : Rel L st a w R) (hrt : ∀ g k s f x, rt.at g = .root k s f x → st.at g = .root k s f x) : ∀ (xs : List Operand) {ps : List PV} {b : Bool}, lendAll rt st xs = some (ps, b) → ps.length = xs.length ∧ ∀ (i : Nat) (pv : PV) (v : Value), ps[i]? = some pv → (xs.map a.eval)[i]? = some v → ARep w (zoneOf L b) pv v
 | [], ps, b, hl => by
  obtain ⟨rfl, rfl⟩ := Prod.mk.inj (Option.some.inj hl)
  exact ⟨rfl, fun i pv v hi => by simp at hi⟩
 | x :: r, ps, b, hl => by
  simp only [lendAll] at hl
  split at hl
  ·rename_i pv b1 ps' c1 h1 h2
   obtain ⟨rfl, rfl⟩ := Prod.mk.inj (Option.some.inj hl)
   obtain ⟨q1, q2⟩ := lendAll_ok h hrt r h2
   refine ⟨by simp [q1], fun i pv' v hi hv => ?_⟩
   cases i with
   | zero =>
    simp only [List.getElem?_cons_zero, Option.some.injEq, List.map_cons] at hi hv
    subst hi; subst hv
    exact (lend_ok h hrt (h.opnd x) h1).mono (zone_mono (fun e => by simp [e]) L)
   | succ i =>
    simp only [List.getElem?_cons_succ, List.map_cons] at hi hv
    exact (q2 i pv' v hi hv).mono (zone_mono (fun e => by simp [e]) L)
  ·cases hl
/-- one step: from the state st the operation leads to a state of K -/
def Does (P : Program) (o : Oper) (st : St) (K : St → Prop) : Prop :=
 ∀ (L : Lay) (a : Act) (w : World) (next : Act → World → Prop) (Q : Exit → Act → World → Prop), Rel L st a w Free → (∀ st' L' a' w', K st' → Stp L L' w w' → Rel L' st' a' w' Free → next a' w') → o.wp P a w next Q
def nonroot (st : St) : Option Tmp → Bool
 | none => true
 | some d => !(st.at d).isRoot
theorem nonroot_spec {d : Option Tmp} (h : nonroot st d = true) : ∀ t, d = some t → (st.at t).isRoot = false := by
 rintro t rfl
 simpa [nonroot] using h
theorem does_pop (hT : TabOk P T) (hrt : ∀ g k s f x, rt.at g = .root k s f x → st.at g = .root k s f x) (hp : pop T rt st o = some out) (hc : out.c = true) (hd : nonroot out.st o.dst = true) : Does P o st (· = setD out.st o.dst out.pv) := by
 intro L a w next Q h hk
 obtain ⟨⟨v, w', hrun, hto⟩, _⟩ := pop_ok hT h hrt hp hc
 obtain ⟨L', q1, q2⟩ := hto o.dst (nonroot_spec hd)
 have := hk _ L' _ w' rfl q1 q2
 unfold Oper.wp
 rcases hrun with hrun | ⟨hrun, rfl⟩
 ·rw [hrun]; exact this
 ·rw [hrun]; exact this
theorem Rel.withR (h : Rel L st a w R) {R' : Nat → Prop} (k : ∀ b, R' b → b < w.heap.size ∧ ¬ L.Z b ∧ ∀ t, ¬ L.F t b) : Rel L st a w R' :=
 ⟨h.size, h.defers, h.zlt, h.flt, h.dj, fun b hb => ⟨(k b hb).1, (k b hb).2.1⟩, fun t b hb hr => (k b hr).2.2 t hb, h.tmp⟩
/-- blocks of nobody's are frozen -/
theorem Rel.zg {L : Lay} {st : St} {a : Act} {w : World} {R Zn : Nat → Prop} (h : Rel L st a w R) (k : ∀ b, Zn b → b < w.heap.size ∧ ∀ t, ¬ L.F t b) (kr : ∀ b, R b → ¬ Zn b) : Rel ⟨fun b => L.Z b ∨ Zn b, L.F, L.C, L.D⟩ st a w R where
 size := h.size
 defers := h.defers
 zlt := ⟨fun b hb => hb.elim (h.zlt b) fun q => (k b q).1, h.zlt.gl.up fun _ hn => .inl hn⟩
 flt := fun t b hb => ⟨(h.flt t b hb).1, fun q => q.elim (h.flt t b hb).2 fun q => (k b q).2 t hb⟩
 dj := h.dj
 rlt := fun b hb => ⟨(h.rlt b hb).1, fun q => q.elim (h.rlt b hb).2 (kr b hb)⟩
 rdj := h.rdj
 tmp := fun t ht => by
  have h1 := h.tmp t ht
  rcases PV.root_or (st.at t) with ⟨k, s, f, x, hp⟩ | hp
  ·rw [hp] at h1 ⊢
   obtain ⟨q1, B, q2, q3, q4⟩ := h1
   exact ⟨q1, B, q2, q3, q4.frame (fun _ k => .inl k) (fun _ _ => rfl)⟩
  ·rw [PVRep.of hp] at h1 ⊢
   exact ORep.places (L' := ⟨fun b => L.Z b ∨ Zn b, L.F, L.C, L.D⟩) (fun _ k => Or.inl k) (fun _ _ => rfl) (fun agg g p e s1 cs1 ad1 h1 h2 h3 => ⟨s1, cs1, ad1, h1, h2, h3⟩) (fun g p _ s1 cs1 A h1 => ⟨cs1, h1⟩) h1
/-- the end of a call: the result's slot -/
theorem Rel.result (h : Rel L st a w R) {Z' Fr : Nat → Prop} {pv : PV} {v : Value} {lent : Bool} (hz : lent = false → ∀ b, Z' b → L.Z b) (hg : GRep w Z' Fr pv v) (hok : okRes lent pv = true) (hFr : ∀ b, Fr b → R b) {d : Option Tmp} (hd : nonroot st d = true) :
  ∃ L', L'.Z = L.Z ∧ (∀ t b, L'.F t b → L.F t b ∨ Fr b) ∧ Rel L' (setD st d pv) (a.put d v) w Free := by
 have hold : ∀ n, Fr n → n < w.heap.size ∧ ¬ L.Z n ∧ ∀ t, ¬ L.F t n := fun n hn => ⟨(h.rlt n (hFr n hn)).1, (h.rlt n (hFr n hn)).2, fun t ht => h.rdj t n ht (hFr n hn)⟩
 rcases PV.root_or pv with ⟨k, s, fl, x, rfl⟩ | hpv
 ·obtain ⟨cs', ad, B, g1, g2, g3, g4⟩ := hg
  have g4 : Rep w L.Z s fl x cs' B := by
   cases hl : lent with
   | true => exact g4.nofz (by simpa [okRes, hl] using hok)
   | false => exact g4.frame (hz hl) (fun _ _ => rfl)
  cases d with
  | none => exact ⟨L, rfl, fun t b hb => .inl hb, h.freeR (fun _ h => h.elim)⟩
  | some d =>
   refine ⟨L.set d Fr cs' ad, rfl, fun t b hb => ?_, h.setR (nonroot_spec hd d rfl) g1 g2 g3 g4 hold (fun n hn => hn.elim)⟩
   simp only [Lay.set] at hb
   split at hb
   ·exact .inr hb
   ·exact .inl hb
 ·have ho' : ORep L st w pv v := by
   cases pv with
   | v agg s x =>
    obtain ⟨cs', g1, g2⟩ := (hg : ARep w _ (.v agg s x) v)
    refine ⟨cs', g1, ?_⟩
    cases hl : lent with
    | true => exact g2.plain (by simpa [okRes, hl] using hok)
    | false => exact g2.frame (hz hl) (fun _ _ => rfl)
   | emp => exact hg
   | fadr s x =>
    have hl : lent = false := by
     have : (!lent) = true := hok
     simpa using this
    exact FaRep.ext (hz hl) (fun _ _ => rfl) (hg : FaRep w _ s x v)
   | fn f2 caps2 =>
    have hl : lent = false := by
     have : (!lent) = true := hok
     simpa using this
    obtain ⟨vs2, g1, g2, g3⟩ := (hg : ARep w _ (.fn f2 caps2) v)
    refine ⟨vs2, g1, g2, fun i c u hc hu => ?_⟩
    obtain ⟨s, x, rfl, g4⟩ := g3 i c u hc hu
    exact FaRep.ext (hz hl) (fun _ _ => rfl) g4
   | dead => exact hg.elim
   | h => exact (hg : False).elim
   | adr => exact (hg : False).elim
   | root => cases hpv
  cases d with
  | none => exact ⟨L, rfl, fun t b hb => .inl hb, h.freeR (fun _ h => h.elim)⟩
  | some d => exact ⟨L, rfl, fun t b hb => .inl hb, (h.setO (nonroot_spec hd d rfl) hpv ho').freeR (fun _ h => h.elim)⟩
theorem does_call {fop : Operand} {args : Array Operand} {ts : Array TypeId} {f : FuncId} {caps cs : List Cap} {ps : List PV} {b : Bool} {R : PV → Prop} (hrt : ∀ g k s f x, rt.at g = .root k s f x → st.at g = .root k s f x) (ho : o.op = .call ⟨.value fop, args, ts⟩) (hf : ref st fop = .fn f caps) (hcs : lendCaps rt caps = some cs)
  (hps : lendAll rt st args.toList = some (ps, b)) (hv : VC P f (ps ++ cs.map capPV) R) (hd : nonroot st o.dst = true) (hok : ∀ pv, R pv → okRes (b || caps.any isAdr) pv = true) : Does P o st (fun st' => ∃ pv, R pv ∧ st' = setD st o.dst pv) := by
 intro L a w next Q h hk
 have hfv := h.opnd fop
 rw [hf] at hfv
 obtain ⟨vs, q1, q2, q3⟩ := hfv
 obtain ⟨l1, l2⟩ := lendAll_ok h hrt _ hps
 obtain ⟨m1, m2⟩ := lendCaps_ok h hrt caps hcs
 have l1' : ps.length = args.size := by simpa using l1
 obtain ⟨fn, f1, f2, f3⟩ := hv.fn
 have f3' : ¬ fn.name = "runtime.NumGoroutine" := by simpa using f3
 obtain ⟨body, hbody⟩ := Option.isSome_iff_exists.1 f2
 let lent := b || caps.any isAdr
 have hzl : ∀ n, zoneOf L lent n → n < w.heap.size := fun n hn => by
  rcases hn with hn | ⟨_, t, hn⟩
  ·exact h.zlt n hn
  ·exact (h.flt t n hn).1
 have hcalls := hv.run (zoneOf L lent) w (args.toList.map a.eval ++ vs) ⟨hzl, h.zlt.gl.up fun _ hn => .inl hn⟩ (by simp [l1, m1, q2]) (fun i pv v hi hvv => by
  by_cases hlt : i < ps.length
  ·rw [List.getElem?_append_left hlt] at hi
   rw [List.getElem?_append_left (by simp; omega)] at hvv
   exact (l2 i pv v hi hvv).mono (zone_mono (fun e => by simp [lent, e]) L)
  ·rw [List.getElem?_append_right (by omega)] at hi
   rw [List.getElem?_append_right (by simp; omega)] at hvv
   rw [List.getElem?_map] at hi
   obtain ⟨c, hc, rfl⟩ := Option.map_eq_some_iff.1 hi
   obtain ⟨s, x, rfl, m3⟩ := m2 _ c hc
   have hlt : i - ps.length < caps.length := by rw [← m1]; exact (List.getElem?_eq_some_iff.1 hc).1
   have e : (args.toList.map a.eval).length = ps.length := by simp [l1]
   rw [e] at hvv
   exact FaRep.ext (zone_mono (fun e => by simp [lent, e]) L) (fun _ _ => rfl) (m3 _ (List.getElem?_eq_getElem hlt) v (q3 _ _ v (List.getElem?_eq_getElem hlt) hvv)))
 have hexec : (execOp a.eval o).run P w = .ok (.enter f (args.toList.map a.eval ++ vs).toArray) w := by
  have e : (args.toList.map a.eval ++ vs).toArray = args.map a.eval ++ vs.toArray := by apply Array.ext'; simp
  rw [e]
  simp [execOp, ho, resolve, q1, Deferred.ofValue, invoke, callFunc, f1, f3', hbody]
 unfold Oper.wp
 rw [hexec]
 rw [Oper.upon_enter]
 refine hcalls.mono fun e w' ⟨v, pv, r1, r2, r3, r4⟩ => ?_
 subst r1
 show next (a.put o.dst v) w'
 have hok := hok pv r3
 obtain ⟨Z', hz, r4⟩ := r4
 have hnew : ∀ n, Z' n ∧ w.heap.size ≤ n → n < w'.heap.size ∧ ∀ t, ¬ L.F t n := fun n hn => by
  rcases hz.nw n hn.1 with q | q
  ·exact absurd (hzl n q) (by omega)
  ·exact ⟨q.2, fun t ht => by have := (h.flt t n ht).1; omega⟩
 have hg0 : Rel L st a w' (NewIn w w' Z') := (h.grow r2).withR fun b hb => ⟨hb.1.2, fun hz => by have := h.zlt b hz; have := hb.1.1; omega, fun t ht => by have := (h.flt t b ht).1; have := hb.1.1; omega⟩
 have hg := hg0.zg hnew fun b hb hn => hb.2 hn.1
 obtain ⟨L', z1, z2, z3⟩ := hg.result (lent := lent) (fun hl n hn => by
  rcases hz.nw n hn with q | q
  ·exact q.elim .inl fun q => by rw [hl] at q; cases q.1
  ·exact .inr ⟨hn, q.1.resolve_left id⟩) r4 hok (fun _ h => h) hd
 refine hk _ L' _ w' ⟨_, r3, rfl⟩ ⟨r2.os, r2.tape, r2.output, r2.size, fun n hn _ => r2.block n hn, ⟨fun b hb => by rw [z1]; exact .inl hb, fun b hb => ?_⟩, fun t n hn => ?_⟩ z3
 ·rw [z1] at hb
  exact hb.imp id fun q => .inr q.2
 ·exact (z2 t n hn).imp (fun q => ⟨t, q⟩) fun q => q.1.1
/-- a slice compared with nil: its length -/
def nilTest (T : List (Nat × TI)) (st : St) (o : Oper) : Option Nat :=
 match o.op with
 | .binOp .eql t x (.const (.slice none 0 0)) _ => match tget T t with
  | some ⟨.sl _ _, false, _, _, _, _⟩ => lenOf st (ref st x)
  | _ => none
 | _ => none
theorem len_some (h : Rel L st a w R) {pv : PV} {v : Value} (hv : ORep L st w pv v) {n : Nat} (hn : lenOf st pv = some n) : ∃ A c, v = .slice A n c ∧ (0 < n → A.isNone = false) := by
 unfold lenOf at hn
 split at hn
 ·obtain rfl := Option.some.inj hn
  obtain ⟨A, hv⟩ := hv
  exact ⟨A, 0, hv, fun h => by omega⟩
 ·rename_i e s x
  obtain rfl := Option.some.inj hn
  obtain ⟨cs, m1, A, c, rfl, q1, q2, q3⟩ := hv
  refine ⟨A, c, by simpa [mkV] using m1.symm, fun hp => ?_⟩
  obtain ⟨ad, rfl, _⟩ := q3 hp
  rfl
 ·rename_i g p
  split at hn
  ·rename_i e s f x hl
   split at hn
   ·rename_i hf
    obtain rfl := Option.some.inj hn
    obtain ⟨s1, cs1, ad1, q1, q2, _⟩ := hv
    obtain rfl := q1.shape hl
    obtain ⟨_, _, B1, _, m4⟩ := h.place q1 hl
    have aux : ∀ f0 : Fl, OwnR w e s.size (fun x c B' => Rep w L.Z s f0 x c B') s.zero x cs1 B1 → ∃ A c, v = .slice A (List.length x) c ∧ (0 < List.length x → A.isNone = false) := by
     intro f0 hR
     rcases hR with ⟨A, rfl, hx⟩ | ⟨gg, cap, cur, rows, Bs, rfl, _⟩
     ·have hx : (x : List s.ty) = [] := hx
      refine ⟨A, 0, ?_, fun hp => by rw [hx] at hp; simp at hp⟩
      rw [hx]; simpa [mkV] using q2.symm
     ·exact ⟨_, cap, by simpa [mkV] using q2.symm, fun _ => rfl⟩
    cases f with
    | fz =>
     obtain ⟨A, c, rfl, k1, k2, k3⟩ := m4
     refine ⟨A, c, by simpa [mkV] using q2.symm, fun hp => ?_⟩
     obtain ⟨ad, rfl, _⟩ := k3 hp
     rfl
    | own => exact aux _ m4
    | ownf => exact aux _ m4
    | io n c => exact aux _ m4.1
    | kz A1 c1 =>
     obtain ⟨A, c, rfl, k1, k2, k3⟩ := m4.1
     refine ⟨A, c, by simpa [mkV] using q2.symm, fun hp => ?_⟩
     obtain ⟨ad, rfl, _⟩ := k3 hp
     rfl
    | junk => cases hf
    | pr => cases hf
   ·cases hn
  ·cases hn
 ·cases hn
theorem does_nil (hT : TabOk P T) {n : Nat} (hn : nilTest T st o = some n) (hd : nonroot st o.dst = true) : Does P o st (fun st' => ∃ b, (0 < n → b = false) ∧ st' = setD st o.dst (.v false .bool b)) := by
 intro L a w next Q h hk
 unfold nilTest at hn
 split at hn
 ·rename_i t x t2 ho
  split at hn
  ·rename_i e s b nf fs cm hi0
   obtain ⟨hu, _⟩ := (hT t _ hi0).sl e s rfl rfl
   obtain ⟨A, c, hv, hA⟩ := len_some h (h.opnd x) hn
   have hg : Goes P o a w L st (.v false .bool A.isNone) := goes_o (v := .bool A.isNone) (by
    have he : a.eval (.const (.slice none 0 0)) = .slice none 0 0 := rfl
    simp only [execOp, ho, hv, he, Sem.run_bind]
    have h1 : (eqGuard .eql t x (.const (.slice none 0 0)) (.slice A n c) (.slice none 0 0)).run P w = .ok () w := by
     unfold eqGuard; simp
    have h2 : (binOp .eql t (.slice A n c) (.slice none 0 0)).run P w = .ok (.bool A.isNone) w := by
     have := run_equal_slice_nil (P := P) w t e A n c hu
     simp [binOp, this]
    rw [h1]
    simp only [Result.andThen_ok, h2]
    rfl) (Stp.refl _ _) h rfl (ORep.mkBool _)
   obtain ⟨v, w', hrun, hto⟩ := hg
   obtain ⟨L', q1, q2⟩ := hto o.dst (nonroot_spec hd)
   have := hk _ L' _ w' ⟨A.isNone, hA, rfl⟩ q1 q2
   unfold Oper.wp
   rcases hrun with hrun | ⟨hrun, rfl⟩
   ·rw [hrun]; exact this
   ·rw [hrun]; exact this
  ·cases hn
 ·cases hn
end
end Go.Proofs.YtoeblmcibheldaaGreatDoor.V
end
section
/- Calls that write what the caller hands over: one argument is memory of the caller's own, lent to be written or given for good. No condition. -/
namespace Go.Proofs.YtoeblmcibheldaaGreatDoor.V
open Go Go.RowKit
/-- what stood is as it was, but for the blocks of F -/
structure ExtF (w w' : World) (F : Nat → Prop) : Prop where
 os : w'.os = w.os
 tape : w'.tape = w.tape
 output : w'.output = w.output
 size : w.heap.size ≤ w'.heap.size
 block : ∀ b, b < w.heap.size → ¬ F b → w'.heap[b]? = w.heap[b]?
/-- the function, called with such arguments, the i-th handed over, returns; R tells the result and what is left of the argument -/
structure VX (P : Program) (f : FuncId) (args : List PV) (i : Nat) (R : PV → PV → Prop) : Prop where
 fn : ∃ fn, P.funcs[f]? = some fn ∧ fn.body.isSome = true ∧ (fn.name == "runtime.NumGoroutine") = false
 run : ∀ (Z F : Nat → Prop) (w : World) (vals : List Value), ZOk Z w → (∀ b, F b → b < w.heap.size ∧ ¬ Z b) → vals.length = args.length →
  (∀ (j : Nat) (pv : PV) (v : Value), j ≠ i → args[j]? = some pv → vals[j]? = some v → ARep w Z pv v) → (∀ (pv : PV) (v : Value), args[i]? = some pv → vals[i]? = some v → GRep w Z F pv v) →
  Calls P f vals.toArray w fun e w' => ∃ v pv o, ∃ Fr Fo Z' : Nat → Prop, e = .returned v ∧ ExtF w w' F ∧ R pv o ∧ GRep w' Z' Fr pv v ∧ (∀ u, vals[i]? = some u → o = .dead ∨ GRep w' Z' Fo o u) ∧
   (∀ b, Fr b ∨ Fo b → (F b ∨ w.heap.size ≤ b) ∧ b < w'.heap.size) ∧ (∀ b, Fr b → ¬ Fo b) ∧ ZUp w w' Z F Z' ∧ ∀ b, Fr b ∨ Fo b → ¬ Z' b
theorem VX.mono {P : Program} {f : FuncId} {args : List PV} {i : Nat} {R R' : PV → PV → Prop} (h : VX P f args i R) (k : ∀ pv o, R pv o → R' pv o) : VX P f args i R' :=
 ⟨h.fn, fun Z F w vals h1 h2 h3 h4 h5 => (h.run Z F w vals h1 h2 h3 h4 h5).mono fun e w' ⟨v, pv, o, Fr, Fo, Z', q1, q2, q3, q4⟩ => ⟨v, pv, o, Fr, Fo, Z', q1, q2, k pv o q3, q4⟩⟩
section
variable {P : Program} {o : Oper} {L L1 : Lay} {st st1 : St} {a : Act} {w w' : World} {R : Nat → Prop} {T : List (Nat × TI)} {rt : St} {out : Out}
theorem Rel.extF (h : Rel L st a w R) {F : Nat → Prop} (hx : ExtF w w' F) (hF : ∀ b, F b → ¬ L.Z b ∧ ∀ t, ¬ L.F t b) : Rel L st a w' R :=
 h.ext hx.size (fun b hb => hx.block b (by rcases hb with hb | ⟨t, hb⟩; exact h.zlt b hb; exact (h.flt t b hb).1) (fun hf => by
  rcases hb with hb | ⟨t, hb⟩
  ·exact (hF b hf).1 hb
  ·exact (hF b hf).2 t hb))
/-- the arguments, the i-th handed over as pv -/
def lendX (st : St) (pv : PV) : Nat → List Operand → Option (List PV × Bool)
 | _, [] => none
 | 0, _ :: r => match lendAll st st r with
  | some (ps, c) => some (pv :: ps, c)
  | none => none
 | i + 1, x :: r => match lend st (ref st x), lendX st pv i r with
  | some (q, b), some (ps, c) => some (q :: ps, b || c)
  | _, _ => none
theorem lendX_ok (h : Rel L st a w R) {pv : PV} : ∀ (i : Nat) (xs : List Operand) {ps : List PV} {b : Bool}, lendX st pv i xs = some (ps, b) → ps.length = xs.length ∧ ps[i]? = some pv ∧ ∀ (j : Nat) (q : PV) (v : Value), j ≠ i → ps[j]? = some q → (xs.map a.eval)[j]? = some v → ARep w (zoneOf L b) q v
 | i, [], ps, b, hl => by simp [lendX] at hl
 | 0, x :: r, ps, b, hl => by
  simp only [lendX] at hl
  split at hl
  ·rename_i ps' c h1
   obtain ⟨rfl, rfl⟩ := Prod.mk.inj (Option.some.inj hl)
   obtain ⟨q1, q2⟩ := lendAll_ok h (fun _ _ _ _ _ h => h) r h1
   refine ⟨by simp [q1], rfl, fun j q v hj hi hv => ?_⟩
   cases j with
   | zero => exact absurd rfl hj
   | succ j =>
    simp only [List.getElem?_cons_succ, List.map_cons] at hi hv
    exact q2 j q v hi hv
  ·cases hl
 | i + 1, x :: r, ps, b, hl => by
  simp only [lendX] at hl
  split at hl
  ·rename_i q0 b1 ps' c1 h1 h2
   obtain ⟨rfl, rfl⟩ := Prod.mk.inj (Option.some.inj hl)
   obtain ⟨q1, q2, q3⟩ := lendX_ok h i r h2
   refine ⟨by simp [q1], by simpa using q2, fun j q v hj hi hv => ?_⟩
   cases j with
   | zero =>
    simp only [List.getElem?_cons_zero, Option.some.injEq, List.map_cons] at hi hv
    subst hi; subst hv
    exact (lend_ok h (fun _ _ _ _ _ h => h) (h.opnd x) h1).mono (zone_mono (fun e => by simp [e]) L)
   | succ j =>
    simp only [List.getElem?_cons_succ, List.map_cons] at hi hv
    exact (q3 j q v (by omega) hi hv).mono (zone_mono (fun e => by simp [e]) L)
  ·cases hl
theorem mkV_inj {agg : Bool} {c1 c2 : List Value} {v : Value} (h1 : mkV agg c1 v) (h2 : mkV agg c2 v) : c1 = c2 := by
 cases agg with
 | true =>
  simp only [mkV, if_true] at h1 h2
  rw [h1] at h2
  have : c1.toArray = c2.toArray := by injection h2
  simpa using this
 | false =>
  simp only [mkV, Bool.false_eq_true, if_false] at h1 h2
  rw [h1, h2]
/-- the arguments of a call, one handed over -/
theorem callx_vals {Z' : Nat → Prop} {fop : Operand} {args : Array Operand} {ts : Array TypeId} {f : FuncId} {caps cs : List Cap} {ps : List PV} {b : Bool} {i : Nat} {pvi : PV} {X : PV → PV → Prop} (h : Rel L1 st1 a w R) (ho : o.op = .call ⟨.value fop, args, ts⟩) (hf : ref st1 fop = .fn f caps) (hcs : lendCaps st1 caps = some cs)
  (hps : lendX st1 pvi i args.toList = some (ps, b)) (hv : VX P f (ps ++ cs.map capPV) i X) (hZ : Z' = zoneOf L1 (b || caps.any isAdr)) {F : Nat → Prop} (hF : ∀ n, F n → n < w.heap.size ∧ ¬ Z' n) (hg : ∀ x, args.toList[i]? = some x → GRep w Z' F pvi (a.eval x)) :
  ∃ vals : List Value, (∀ x, args.toList[i]? = some x → vals[i]? = some (a.eval x)) ∧ (execOp a.eval o).run P w = .ok (.enter f vals.toArray) w ∧ Calls P f vals.toArray w fun e w' => ∃ v pv o, ∃ Fr Fo Z'' : Nat → Prop, e = .returned v ∧ ExtF w w' F ∧ X pv o ∧ GRep w' Z'' Fr pv v ∧ (∀ u, vals[i]? = some u → o = .dead ∨ GRep w' Z'' Fo o u) ∧
   (∀ b, Fr b ∨ Fo b → (F b ∨ w.heap.size ≤ b) ∧ b < w'.heap.size) ∧ (∀ b, Fr b → ¬ Fo b) ∧ ZUp w w' Z' F Z'' ∧ ∀ b, Fr b ∨ Fo b → ¬ Z'' b := by
 have hfv := h.opnd fop
 rw [hf] at hfv
 obtain ⟨vs, q1, q2, q3⟩ := hfv
 obtain ⟨l1, l3, l2⟩ := lendX_ok h _ _ hps
 obtain ⟨m1, m2⟩ := lendCaps_ok h (fun _ _ _ _ _ h => h) caps hcs
 have l1' : ps.length = args.size := by simpa using l1
 obtain ⟨fn, f1, f2, f3⟩ := hv.fn
 have f3' : ¬ fn.name = "runtime.NumGoroutine" := by simpa using f3
 obtain ⟨body, hbody⟩ := Option.isSome_iff_exists.1 f2
 have hil : i < args.size := by
  have := (List.getElem?_eq_some_iff.1 l3).1
  omega
 have hval : ∀ x, args.toList[i]? = some x → (args.toList.map a.eval ++ vs)[i]? = some (a.eval x) := fun x hx => by
  rw [List.getElem?_append_left (by simpa using hil), List.getElem?_map, hx]; rfl
 refine ⟨args.toList.map a.eval ++ vs, hval, ?_, ?_⟩
 ·have e : (args.toList.map a.eval ++ vs).toArray = args.map a.eval ++ vs.toArray := by apply Array.ext'; simp
  rw [e]
  simp [execOp, ho, resolve, q1, Deferred.ofValue, invoke, callFunc, f1, f3', hbody]
 ·have hzl : ∀ n, Z' n → n < w.heap.size := fun n hn => by
   rw [hZ] at hn
   rcases hn with hn | ⟨_, t, hn⟩
   ·exact h.zlt n hn
   ·exact (h.flt t n hn).1
  refine hv.run Z' F w _ ⟨hzl, h.zlt.gl.up fun _ hn => by rw [hZ]; exact .inl hn⟩ hF (by simp [l1, m1, q2]) (fun j pv v hj hi hvv => ?_) (fun pv v hi hvv => ?_)
  ·subst hZ
   by_cases hlt : j < ps.length
   ·rw [List.getElem?_append_left hlt] at hi
    rw [List.getElem?_append_left (by simp; omega)] at hvv
    exact (l2 j pv v hj hi hvv).mono (zone_mono (fun e => by simp [e]) L1)
   ·rw [List.getElem?_append_right (by omega)] at hi
    rw [List.getElem?_append_right (by simp; omega)] at hvv
    rw [List.getElem?_map] at hi
    obtain ⟨c, hc, rfl⟩ := Option.map_eq_some_iff.1 hi
    obtain ⟨s, x, rfl, m3⟩ := m2 _ c hc
    have hlt : j - ps.length < caps.length := by rw [← m1]; exact (List.getElem?_eq_some_iff.1 hc).1
    have e : (args.toList.map a.eval).length = ps.length := by simp [l1]
    rw [e] at hvv
    exact FaRep.ext (zone_mono (fun e => by simp [e]) L1) (fun _ _ => rfl) (m3 _ (List.getElem?_eq_getElem hlt) v (q3 _ _ v (List.getElem?_eq_getElem hlt) hvv))
  ·rw [List.getElem?_append_left (by omega), l3] at hi
   obtain rfl := Option.some.inj hi
   have hx : args.toList[i]? = some (args.toList[i]'(by simpa using hil)) := List.getElem?_eq_getElem _
   rw [hval _ hx] at hvv
   obtain rfl := Option.some.inj hvv
   exact hg _ hx
theorem take_shape {st st1 : St} {g : Nat} {k : RK} {s0 : Sh} {f0 : Fl} {x0 : s0.ty} (hg : st.at g = .root k s0 f0 x0) {p : Path} {s1 s : Sh} {f1 fl : Fl} {x1 : s1.ty} {x : s.ty} (hget : get s0 f0 x0 p = some ⟨s1, f1, x1⟩) (hj : take st g p = some (⟨s, fl, x⟩, st1)) : s1 = s := by
 have aux : ∀ o : Option St, (match o with | some st' => some ((⟨s1, f1, x1⟩ : (s : Sh) × Fl × s.ty), st') | none => none) = some (⟨s, fl, x⟩, st1) → s1 = s := by
  intro o ho
  cases o with
  | none => cases ho
  | some st' =>
   have := (Prod.mk.inj (Option.some.inj ho)).1
   exact congrArg Sigma.fst this
 unfold V.take at hj
 rw [hg] at hj
 cases k with
 | val agg =>
  cases p with
  | nil =>
   rw [get_nil] at hget
   cases Option.some.inj hget
   simp only at hj
   exact congrArg Sigma.fst (Prod.mk.inj (Option.some.inj hj)).1
  | cons a p =>
   simp only [hget] at hj
   exact aux _ hj
 | box t => simp only [hget] at hj; exact aux _ hj
 | ibox t b => simp only [hget] at hj; exact aux _ hj
 | tup t => simp only [hget] at hj; exact aux _ hj
/-- what may go back to the receiver: nothing frozen, but what was frozen there before -/
def keepZ : (s : Sh) → Fl → s.ty → Fl → s.ty → Prop
 | .pr a b, f', x', f, x => keepZ a f'.l x'.1 f.l x.1 ∧ keepZ b f'.r x'.2 f.r x.2
 | .sl e s, f', x', f, x => Fl.nofz (.sl e s) f' = true ∨ match f' with
  | .kz A c => f = .kz A c ∧ (x' : List s.ty) = x
  | _ => False
 | _, _, _, _, _ => True
theorem Rep.keepZ {w w' : World} {Z Z' : Nat → Prop} (hw : ∀ b, Z b → w'.heap[b]? = w.heap[b]?) : ∀ {s : Sh} {f' f : Fl} {x' x : s.ty} {cs cs0 : List Value} {B B0 : Nat → Prop}, V.keepZ s f' x' f x → Rep w Z s f x cs0 B0 → Rep w' Z' s f' x' cs B → Rep w' Z s f' x' cs B
 | .unit, _, _, _, _, _, _, _, _, _, _, h => h
 | .int _, _, _, _, _, _, _, _, _, _, _, h => h
 | .bool, _, _, _, _, _, _, _, _, _, _, h => h
 | .str, _, _, _, _, _, _, _, _, _, _, h => h
 | .pr a b, _, _, _, _, _, _, _, _, k, ⟨c1, c2, B1, B2, h0, h1, h2, h3, h4, h5⟩, ⟨d1, d2, E1, E2, e0, e1, e2, e3, e4, e5⟩ => ⟨d1, d2, E1, E2, e0, e1, e2, e3, Rep.keepZ hw k.1 h4 e4, Rep.keepZ hw k.2 h5 e5⟩
 | .sl e s, f', f, x', x, cs, cs0, B, B0, k, h0, h => by
  rcases k with k | k
  ·exact h.nofz k
  ·cases f' with
   | kz A c =>
    obtain ⟨rfl, rfl⟩ := k
    have e1 := h.2
    have e2 := h0.2
    refine ⟨?_, e1⟩
    have := (Rep.frame (s := .sl e s) (f := .fz) (w' := w') (Z' := Z) (B := fun _ => False) (fun _ h => h) (fun b hb => hw b (hb.elim id False.elim)) h0.1)
    rw [e1, ← e2]
    exact this
   | _ => exact k.elim
/-- what is left of the argument goes back to its place -/
def xback (st1 : St) (g : Nat) (p : Path) (k0 : RK) (s : Sh) (fl : Fl) (x : s.ty) (lent : Bool) (kill : Nat → Path → PV → PV) (o : PV) (K : St → Prop) : Prop :=
 match o with
 | .root k s' f' x' => k = k0 ∧ (match castTo s' s x' with | some y => lent = true → keepZ s f' y fl x | none => False) ∧ match put st1 g p s' f' x' kill with
  | some st2 => K st2
  | none => False
 | _ => False
theorem below_self (p : Path) : below p p = false := by simp [below, pre_refl]
theorem put_spec {st st1 : St} {g : Nat} {k : RK} {s0 : Sh} {f0 : Fl} {x0 : s0.ty} (hg : st.at g = .root k s0 f0 x0) {p : Path} {s : Sh} {f : Fl} {x : s.ty} {kill : Nat → Path → PV → PV} (hj : put st g p s f x kill = some st1) : ∃ f3 x3, upd s f x s0 f0 x0 p = some (f3, x3) ∧ st1 = (st.map (kill g p)).set g (.root k s0 f3 x3) := by
 unfold V.put at hj
 rw [hg] at hj
 simp only at hj
 split at hj
 ·rename_i f3 x3 hu
  exact ⟨f3, x3, hu, (Option.some.inj hj).symm⟩
 ·cases hj
theorem does_io {fop : Operand} {args : Array Operand} {ts : Array TypeId} {f : FuncId} {caps cs : List Cap} {ps : List PV} {b : Bool} {i : Nat} {agg : Bool} {g : Nat} {p : Path} {s : Sh} {fl : Fl} {x : s.ty} {X : PV → PV → Prop} {K : St → PV → Prop} {xo : Operand} (ho : o.op = .call ⟨.value fop, args, ts⟩)
  (hxo : args.toList[i]? = some xo) (hx : ref st xo = .h agg g p) (hl : look st g p = some ⟨s, fl, x⟩) (hj : put st g p s .junk x hitS = some st1) (hf : ref st1 fop = .fn f caps) (hcs : lendCaps st1 caps = some cs) (hps : lendX st1 (.root (.val agg) s fl x) i args.toList = some (ps, b))
  (hv : VX P f (ps ++ cs.map capPV) i X) (hk0 : ∀ pv ot, X pv ot → okRes (b || caps.any isAdr) pv = true ∧ xback st1 g p (.val agg) s fl x (b || caps.any isAdr) hitS ot (fun st2 => nonroot st2 o.dst = true ∧ K st2 pv)) : Does P o st (fun st' => ∃ st2 pv, K st2 pv ∧ st' = setD st2 o.dst pv) := by
 intro L a w next Q h hk
 have hv0 := h.opnd xo
 rw [hx] at hv0
 obtain ⟨s1, cs1, ad1, hP, hm, hsl⟩ := hv0
 obtain rfl := hP.shape hl
 obtain ⟨k, s0, f0, x0, hg, hOk, hget, hsub⟩ := id hP
 obtain ⟨f1, x1, e1, B1, e2, e3, e4, e5, e6⟩ := h.put hg hP
 have hl' : get s0 f0 x0 p = some ⟨s, fl, x⟩ := by unfold look at hl; rw [hg] at hl; exact hl
 rw [hl'] at e1
 cases Option.some.inj e1
 obtain ⟨f3, x3, hu, hst1⟩ := put_spec hg hj
 have r1 := e6 w cs1 .junk x (fun _ => False) B1 f3 x3 hitS (.inl ⟨rfl, rfl⟩) rfl e3.tojunk (fun _ h => h.elim) (fun b hb => ⟨.inr hb, id⟩) hu (.inr ⟨rfl, rfl⟩)
 rw [← hst1] at r1
 generalize hL1 : (⟨L.Z, fun t b => if t = g then (L.F g b ∧ ¬ B1 b) ∨ False else L.F t b, fun t => if t = g then csub s0 (L.C g) p cs1 else L.C t, L.D⟩ : Lay) = L1 at r1
 have hL1F : ∀ t n, L1.F t n → L.F t n := by
  intro t n hn
  rw [← hL1] at hn
  simp only at hn
  split at hn
  ·rename_i e; subst e; exact hn.elim (fun q => q.1) False.elim
  ·exact hn
 have hL1Z : L1.Z = L.Z := by rw [← hL1]
 have hg1 : st1.at g = .root k s0 f3 x3 := by
  rw [hst1, St.at_set, if_pos ⟨rfl, by rw [List.length_map]; exact root_lt hg⟩]
 obtain ⟨w1, f4, x4, w2⟩ := upd_other p p hu (below_self p) hOk hl'
 have hP1 : Place L1 st1 w g p s cs1 ad1 := by
  refine ⟨k, s0, f3, x3, hg1, w1, ⟨f4, x4, w2⟩, ?_⟩
  rw [← hL1]
  simp only [if_true]
  rw [csub_self p hsub]
  exact hsub
 generalize hlent : (b || caps.any isAdr) = lent at hk0
 have hnF : ∀ n, B1 n → ¬ L1.Z n ∧ ∀ t, ¬ L1.F t n := fun n hn => ⟨(r1.rlt n hn).2, fun t ht => r1.rdj t n ht hn⟩
 obtain ⟨vals, k1, k2, k3⟩ := callx_vals (F := B1) r1 ho hf hcs hps hv rfl (fun n hn => ⟨(r1.rlt n hn).1, fun hz => hz.elim (hnF n hn).1 fun q => by obtain ⟨t, ht⟩ := q.2; exact (hnF n hn).2 t ht⟩) (fun y hy => by
  rw [hxo] at hy
  obtain rfl := Option.some.inj hy
  exact ⟨cs1, none, B1, ⟨hm, hsl, rfl⟩, fun _ h => h, (fun A hA => by cases hA), e3.frame (fun n hn => .inl (by rw [hL1Z]; exact hn)) (fun _ _ => rfl)⟩)
 rw [hlent] at k3
 unfold Oper.wp
 rw [k2]
 rw [Oper.upon_enter]
 refine k3.mono fun e w' ⟨v, pv, ot, Fr, Fo, Z2, c1, c2, c3, c4, c5, c6, c7, c8, c9⟩ => ?_
 subst c1
 show next (a.put o.dst v) w'
 obtain ⟨hok, hb⟩ := hk0 pv ot c3
 unfold xback at hb
 split at hb
 ·rename_i k' s' f' x'
  obtain ⟨rfl, hnf, hb⟩ := hb
  obtain ⟨y, hy, hnf⟩ : ∃ y, castTo s' s x' = some y ∧ (lent = true → keepZ s f' y fl x) := by
   split at hnf
   ·rename_i y hy; exact ⟨y, hy, hnf⟩
   ·exact hnf.elim
  obtain ⟨rfl, hy⟩ := castTo_some hy
  simp only at hy
  subst hy
  split at hb
  ·rename_i st2 hput
   have hfr : ∀ n, Fr n ∨ Fo n → n < w'.heap.size ∧ ¬ L1.Z n ∧ ∀ t, ¬ L1.F t n := fun n hn => by
    obtain ⟨q1, q2⟩ := c6 n hn
    refine ⟨q2, ?_⟩
    rcases q1 with q1 | q1
    ·exact hnF n q1
    ·exact ⟨fun hz => by have := r1.zlt n hz; omega, fun t ht => by have := (r1.flt t n ht).1; omega⟩
   have hnew : ∀ n, Z2 n ∧ ¬ zoneOf L1 lent n → n < w'.heap.size ∧ ∀ t, ¬ L1.F t n := fun n hn => by
    rcases c8.nw n hn.1 with q | ⟨q, q2⟩
    ·exact absurd q hn.2
    ·refine ⟨q2, ?_⟩
     rcases q with q | q
     ·exact (hnF n q).2
     ·exact fun t ht => by have := (r1.flt t n ht).1; omega
   have r2 := ((r1.extF c2 hnF).withR hfr).zg hnew fun n hn hz => c9 n hn hz.1
   have hP2 : Place ⟨fun b => L1.Z b ∨ (Z2 b ∧ ¬ zoneOf L1 lent b), L1.F, L1.C, L1.D⟩ st1 w' g p s' cs1 ad1 := hP1.ext r1 (fun n hn => c2.block n (by
    rcases hn with hn | ⟨t, hn⟩
    ·exact r1.zlt n hn
    ·exact (r1.flt t n hn).1) (fun hB => by
    rcases hn with hn | ⟨t, hn⟩
    ·exact (hnF n hB).1 hn
    ·exact (hnF n hB).2 t hn))
   obtain ⟨cs2, ad2, B2, g1, g2, g3, g4⟩ := (c5 _ (k1 _ hxo)).resolve_left (by simp)
   obtain rfl : cs2 = cs1 := mkV_inj g1.1 hm
   have hzz : lent = false → ∀ n, Z2 n → L1.Z n ∨ (Z2 n ∧ ¬ zoneOf L1 lent n) := fun e n hn => by
    by_cases q : zoneOf L1 lent n
    ·exact .inl (Or.elim q id fun q => by rw [e] at q; cases q.1)
    ·exact .inr ⟨hn, q⟩
   have g4 : Rep w' (fun b => L1.Z b ∨ (Z2 b ∧ ¬ zoneOf L1 lent b)) s' f' x' cs2 B2 := by
    cases hl : lent with
    | true => exact (Rep.keepZ (fun b hb => c2.block b (r1.zlt b hb) (fun hB => (hnF b hB).1 hb)) (hnf hl) (by rw [hL1Z]; exact e3) g4).frame (fun n hn => .inl hn) (fun _ _ => rfl)
    | false => exact g4.frame (fun n hn => by have := hzz hl n hn; rw [hl] at this; exact this) (fun _ _ => rfl)
   obtain ⟨f5, x5, d1, B5, d2, d3, d4, d5, d6⟩ := r2.put hg1 hP2
   obtain ⟨f6, x6, hu2, hst2⟩ := put_spec hg1 hput
   have r3 := d6 w' cs2 f' x' B2 Fr f6 x6 hitS (.inl ⟨rfl, rfl⟩) rfl g4 (fun n hn => .inl (.inr (g2 n hn))) (fun n hn => ⟨.inl (.inl hn), fun h2 => c7 n hn (g2 n h2)⟩) hu2 (.inr ⟨rfl, rfl⟩)
   rw [← hst2] at r3
   obtain ⟨L', z1, z2, z3⟩ := r3.result (lent := lent) hzz c4 hok (fun _ h => h) hb.1
   refine hk _ L' _ w' ⟨st2, pv, hb.2, rfl⟩ ⟨c2.os, c2.tape, c2.output, c2.size, fun n hn hL => c2.block n hn (fun hB => hL g (e2 n hB)), ⟨fun n hn => by rw [z1]; exact .inl (by rw [hL1Z]; exact hn), fun n hn => by
    rw [z1] at hn
    rcases hn with hn | hn
    ·exact .inl (by rw [← hL1Z]; exact hn)
    ·rcases c8.nw n hn.1 with q | ⟨q, _⟩
     ·exact absurd q hn.2
     ·exact .inr (q.imp (fun q => ⟨g, e2 n q⟩) id)⟩, fun t n hn => ?_⟩ z3
   have hFo : ∀ n, Fr n ∨ Fo n → (∃ t', L.F t' n) ∨ w.heap.size ≤ n := fun n hn => (c6 n hn).1.imp (fun q => ⟨g, e2 n q⟩) id
   rcases z2 t n hn with hn | hn
   ·simp only at hn
    split at hn
    ·rcases hn with hn | hn
     ·exact .inl ⟨g, hL1F g n hn.1⟩
     ·exact hFo n (.inr (g2 n hn))
    ·exact .inl ⟨t, hL1F t n hn⟩
   ·exact hFo n (.inl hn)
  ·exact hb.elim
 ·exact hb.elim
theorem does_mv {fop : Operand} {args : Array Operand} {ts : Array TypeId} {f : FuncId} {caps cs : List Cap} {ps : List PV} {b : Bool} {i : Nat} {agg : Bool} {g : Nat} {p : Path} {s : Sh} {fl : Fl} {x : s.ty} {X : PV → PV → Prop} {K : St → PV → Prop} {xo : Operand} (ho : o.op = .call ⟨.value fop, args, ts⟩)
  (hxo : args.toList[i]? = some xo) (hx : ref st xo = .h agg g p) (hj : take st g p = some (⟨s, fl, x⟩, st1)) (hf : ref st1 fop = .fn f caps) (hcs : lendCaps st1 caps = some cs) (hps : lendX st1 (.root (.val agg) s fl x) i args.toList = some (ps, b))
  (hv : VX P f (ps ++ cs.map capPV) i X) (hk0 : ∀ pv ot, X pv ot → okRes (b || caps.any isAdr) pv = true ∧ nonroot st1 o.dst = true ∧ K st1 pv) : Does P o st (fun st' => ∃ st2 pv, K st2 pv ∧ st' = setD st2 o.dst pv) := by
 intro L a w next Q h hk
 have hv0 := h.opnd xo
 rw [hx] at hv0
 obtain ⟨s1, cs1, ad1, hP, hm, hsl⟩ := hv0
 obtain ⟨L1, B1, e1, r1, e2, e3, e4⟩ := h.take hj hP
 have hss : s1 = s := by
  have := e3.len
  obtain ⟨k, s0, f0, x0, hg, hOk, ⟨f1, x1, hget⟩, hsub⟩ := id hP
  exact take_shape hg hget hj
 subst hss
 have r1 : Rel L1 st1 a w B1 := r1.freeR fun n hn => .inr hn
 generalize hlent : (b || caps.any isAdr) = lent at hk0
 have hnF : ∀ n, B1 n → ¬ L1.Z n ∧ ∀ t, ¬ L1.F t n := fun n hn => ⟨(r1.rlt n hn).2, fun t ht => r1.rdj t n ht hn⟩
 obtain ⟨vals, k1, k2, k3⟩ := callx_vals (F := B1) r1 ho hf hcs hps hv rfl (fun n hn => ⟨(r1.rlt n hn).1, fun hz => hz.elim (hnF n hn).1 fun q => by obtain ⟨t, ht⟩ := q.2; exact (hnF n hn).2 t ht⟩) (fun y hy => by
  rw [hxo] at hy
  obtain rfl := Option.some.inj hy
  exact ⟨cs1, none, B1, ⟨hm, hsl, rfl⟩, fun _ h => h, (fun A hA => by cases hA), e3.frame (fun n hn => .inl (by rw [e1.Z]; exact hn)) (fun _ _ => rfl)⟩)
 rw [hlent] at k3
 unfold Oper.wp
 rw [k2]
 rw [Oper.upon_enter]
 refine k3.mono fun e w' ⟨v, pv, ot, Fr, Fo, Z2, c1, c2, c3, c4, c5, c6, c7, c8, c9⟩ => ?_
 subst c1
 show next (a.put o.dst v) w'
 obtain ⟨hok, hb⟩ := hk0 pv ot c3
 have hfr : ∀ n, Fr n → n < w'.heap.size ∧ ¬ L1.Z n ∧ ∀ t, ¬ L1.F t n := fun n hn => by
  obtain ⟨q1, q2⟩ := c6 n (.inl hn)
  refine ⟨q2, ?_⟩
  rcases q1 with q1 | q1
  ·exact hnF n q1
  ·exact ⟨fun hz => by have := r1.zlt n hz; omega, fun t ht => by have := (r1.flt t n ht).1; omega⟩
 have hnew : ∀ n, Z2 n ∧ ¬ zoneOf L1 lent n → n < w'.heap.size ∧ ∀ t, ¬ L1.F t n := fun n hn => by
  rcases c8.nw n hn.1 with q | ⟨q, q2⟩
  ·exact absurd q hn.2
  ·refine ⟨q2, ?_⟩
   rcases q with q | q
   ·exact (hnF n q).2
   ·exact fun t ht => by have := (r1.flt t n ht).1; omega
 have r2 := ((r1.extF c2 hnF).withR hfr).zg hnew fun n hn hz => c9 n (.inl hn) hz.1
 obtain ⟨L', z1, z2, z3⟩ := r2.result (lent := lent) (fun e n hn => by
  by_cases q : zoneOf L1 lent n
  ·exact .inl (Or.elim q id fun q => by rw [e] at q; cases q.1)
  ·exact .inr ⟨hn, q⟩) c4 hok (fun _ h => h) hb.1
 refine hk _ L' _ w' ⟨st1, pv, hb.2, rfl⟩ ⟨c2.os, c2.tape, c2.output, c2.size, fun n hn hL => c2.block n hn (fun hB => by obtain ⟨t, ht⟩ := (e2 n hB).2; exact hL t ht), ⟨fun n hn => by rw [z1]; exact .inl (by rw [e1.Z]; exact hn), fun n hn => by
  rw [z1] at hn
  rcases hn with hn | hn
  ·exact .inl (by rw [← e1.Z]; exact hn)
  ·rcases c8.nw n hn.1 with q | ⟨q, _⟩
   ·exact absurd q hn.2
   ·exact .inr (q.imp (fun q => (e2 n q).2) id)⟩, fun t n hn => ?_⟩ z3
 rcases z2 t n hn with hn | hn
 ·exact .inl (e1.F t n hn)
 ·exact (c6 n (.inl hn)).1.imp (fun q => (e2 n q).2) id
theorem does_bx {fop : Operand} {args : Array Operand} {ts : Array TypeId} {f : FuncId} {caps cs : List Cap} {ps : List PV} {b : Bool} {i : Nat} {g : Nat} {k : RK} {t0 : TypeId} {s : Sh} {fl : Fl} {x : s.ty} {X : PV → PV → Prop} {K : St → PV → Prop} {xo : Operand} (ho : o.op = .call ⟨.value fop, args, ts⟩)
  (hxo : args.toList[i]? = some xo) (hx : ref st xo = .adr g []) (hg : st.at g = .root k s fl x) (hkk : k = .box t0 ∨ ∃ b0, k = .ibox t0 b0) (hj : put st g [] s .junk x hit = some st1) (hf : ref ((st1.map (V.drop g)).set g .dead) fop = .fn f caps) (hcs : lendCaps ((st1.map (V.drop g)).set g .dead) caps = some cs) (hps : lendX ((st1.map (V.drop g)).set g .dead) (.root (.box t0) s fl x) i args.toList = some (ps, b))
  (hv : VX P f (ps ++ cs.map capPV) i X) (hk0 : ∀ pv ot, X pv ot → okRes (b || caps.any isAdr) pv = true ∧ xback st1 g [] (.box t0) s fl x (b || caps.any isAdr) hit ot (fun st2 => nonroot st2 o.dst = true ∧ K st2 pv)) : Does P o st (fun st' => ∃ st2 pv, K st2 pv ∧ st' = setD st2 o.dst pv) := by
 intro L a w next Q h hk
 have hv0 := h.opnd xo
 rw [hx] at hv0
 obtain ⟨s1, cs1, A1, hP, hptr⟩ := hv0
 obtain ⟨k', s0, f0, x0, hg', hOk, ⟨f9, x9, hget⟩, hsub⟩ := id hP
 rw [hg] at hg'
 injection hg' with i1 i2 i3 i4
 subst i1; subst i2; subst i3
 obtain rfl := eq_of_heq i4
 rw [get_nil] at hget
 cases Option.some.inj hget
 rw [sub_nil] at hsub
 obtain ⟨hC, hD⟩ := Prod.mk.inj (Option.some.inj hsub)
 obtain ⟨rt1, B0, rt2, rt3, rt4⟩ := h.root hg
 obtain ⟨b0, hA1, hblk⟩ : ∃ b0, A1 = ⟨b0, 0, none⟩ ∧ w.heap[b0]? = some (.cells cs1.toArray t0 (0, 0)) := by
  rcases hkk with rfl | ⟨b0, rfl⟩
  ·obtain ⟨b, m1, m2, m3⟩ := rt1
   rw [hD] at m3
   rw [hC] at m2
   exact ⟨b, Option.some.inj m3, m2⟩
  ·obtain ⟨m1, m2, m3⟩ := rt1
   rw [hD] at m3
   rw [hC] at m2
   exact ⟨b0, Option.some.inj m3, m2⟩
 subst hA1
 obtain ⟨f1, x1, e1, B1, e2, e3, e4, e5, e6⟩ := h.put hg hP
 rw [get_nil] at e1
 cases Option.some.inj e1
 obtain ⟨f3, x3, hu, hst1⟩ := put_spec hg hj
 have r1 := e6 w cs1 .junk x (fun _ => False) B1 f3 x3 hit (.inl ⟨rfl, rfl⟩) rfl e3.tojunk (fun _ h => h.elim) (fun b hb => ⟨.inr hb, id⟩) hu (.inl rfl)
 rw [← hst1] at r1
 generalize hL1 : (⟨L.Z, fun t b => if t = g then (L.F g b ∧ ¬ B1 b) ∨ False else L.F t b, fun t => if t = g then csub s (L.C g) [] cs1 else L.C t, L.D⟩ : Lay) = L1 at r1
 have hL1F : ∀ t n, L1.F t n → L.F t n := by
  intro t n hn
  rw [← hL1] at hn
  simp only at hn
  split at hn
  ·rename_i e; subst e; exact hn.elim (fun q => q.1) False.elim
  ·exact hn
 have hL1Z : L1.Z = L.Z := by rw [← hL1]
 have hL1C : L1.C g = cs1 := by rw [← hL1]; simp only [if_true, csub_nil]
 have hL1D : L1.D g = some ⟨b0, 0, none⟩ := by rw [← hL1]; exact hD
 have hg1 : st1.at g = .root k s f3 x3 := by
  rw [hst1, St.at_set, if_pos ⟨rfl, by rw [List.length_map]; exact root_lt hg⟩]
 have hnF : ∀ n, B1 n → ¬ L1.Z n ∧ ∀ t, ¬ L1.F t n := fun n hn => ⟨(r1.rlt n hn).2, fun t ht => r1.rdj t n ht hn⟩
 have hb0 : L.F g b0 ∧ ¬ B1 b0 := e5 _ rfl
 have hb1 : L1.F g b0 := by rw [← hL1]; simp only [if_true]; exact .inl hb0
 obtain ⟨Bg, rg, _, _⟩ := r1.gone hg1
 generalize hLg : (⟨L1.Z, fun t b => if t = g then False else L1.F t b, L1.C, L1.D⟩ : Lay) = Lg at rg
 have hLgZ : Lg.Z = L1.Z := by rw [← hLg]
 have hLgF : ∀ t n, Lg.F t n → L1.F t n := by
  intro t n hn
  rw [← hLg] at hn
  simp only at hn
  split at hn
  ·exact hn.elim
  ·exact hn
 generalize hlent : (b || caps.any isAdr) = lent at hk0
 have hzz : ∀ n, zoneOf Lg lent n → ¬ (B1 n ∨ n = b0) := fun n hn hf => by
  have hR : B1 n ∨ L1.F g n := hf.imp id (fun e => by rw [e]; exact hb1)
  rcases hn with hn | ⟨_, t, hn⟩
  ·exact (rg.rlt n hR).2 hn
  ·exact rg.rdj t n hn hR
 obtain ⟨vals, k1, k2, k3⟩ := callx_vals (F := fun n => B1 n ∨ n = b0) (Z' := zoneOf Lg lent) rg ho hf hcs hps hv (by rw [hlent]) (fun n hn => by
  refine ⟨?_, fun hz => hzz n hz hn⟩
  rcases hn with hn | rfl
  ·exact (r1.rlt n hn).1
  ·exact (r1.flt g _ hb1).1) (fun y hy => by
  rw [hxo] at hy
  obtain rfl := Option.some.inj hy
  exact ⟨cs1, some ⟨b0, 0, none⟩, B1, ⟨b0, hptr, hblk, rfl⟩, fun _ h => .inl h, (fun A hA => by obtain rfl := Option.some.inj hA; exact ⟨hb0.2, .inr rfl⟩), e3.frame (fun n hn => .inl (by rw [hLgZ, hL1Z]; exact hn)) (fun _ _ => rfl)⟩)
 unfold Oper.wp
 rw [k2]
 rw [Oper.upon_enter]
 refine k3.mono fun e w' ⟨v, pv, ot, Fr, Fo, Z2, c1, c2, c3, c4, c5, c6, c7, c8, c9⟩ => ?_
 subst c1
 show next (a.put o.dst v) w'
 obtain ⟨hok, hb⟩ := hk0 pv ot c3
 unfold xback at hb
 split at hb
 ·rename_i k' s' f' x'
  obtain ⟨rfl, hnf, hb⟩ := hb
  obtain ⟨y, hy, hnf⟩ : ∃ y, castTo s' s x' = some y ∧ (lent = true → keepZ s f' y fl x) := by
   split at hnf
   ·rename_i y hy; exact ⟨y, hy, hnf⟩
   ·exact hnf.elim
  obtain ⟨rfl, hy⟩ := castTo_some hy
  simp only at hy
  subst hy
  split at hb
  ·rename_i st2 hput
   obtain ⟨cs2, ad2, B2, g1, g2, g3, g4⟩ := (c5 _ (k1 _ hxo)).resolve_left (by simp)
   obtain ⟨b2, n1, n2, n3⟩ := g1
   have hbb : b2 = b0 := by
    rw [hptr] at n1
    injection n1 with n1
    have := Option.some.inj n1
    injection this with n1
    exact n1.symm
   subst hbb
   obtain ⟨g31, g32⟩ := g3 _ n3
   have hkeep : ∀ b, L1.Z b → w'.heap[b]? = w.heap[b]? := fun b hb => c2.block b (r1.zlt b hb) (fun hf => hzz b (.inl (by rw [hLgZ]; exact hb)) hf)
   have hzz2 : lent = false → ∀ n, Z2 n → L1.Z n ∨ (Z2 n ∧ ¬ zoneOf Lg lent n) := fun e n hn => by
    by_cases q : zoneOf Lg lent n
    ·exact .inl (Or.elim q (fun q => by rw [← hLgZ]; exact q) fun q => by rw [e] at q; cases q.1)
    ·exact .inr ⟨hn, q⟩
   have g4 : Rep w' (fun b => L1.Z b ∨ (Z2 b ∧ ¬ zoneOf Lg lent b)) s' f' x' cs2 B2 := by
    cases hl : lent with
    | true => exact (Rep.keepZ hkeep (hnf hl) (by rw [hL1Z]; exact e3) g4).frame (fun n hn => .inl hn) (fun _ _ => rfl)
    | false => exact g4.frame (fun n hn => by have := hzz2 hl n hn; rw [hl] at this; exact this) (fun _ _ => rfl)
   have hlt0 : b2 < w'.heap.size := (c6 _ (.inr g32)).2
   let w1 : World := { w' with heap := w'.heap.set b2 (.cells cs1.toArray t0 (0, 0)) hlt0 }
   have hw1 : w1.heap[b2]? = some (.cells cs1.toArray t0 (0, 0)) := by simp [w1]
   have hw1n : ∀ n, n ≠ b2 → w1.heap[n]? = w'.heap[n]? := fun n hn => by
    simp only [w1]
    rw [Array.getElem?_set_ne]
    exact fun e => hn e.symm
   have hw1s : w1.heap.size = w'.heap.size := by simp [w1]
   have hfr : ∀ n, Fr n ∨ (Fo n ∧ n ≠ b2) → n < w1.heap.size ∧ ¬ L1.Z n ∧ ∀ t, ¬ L1.F t n := fun n hn => by
    have hne : n ≠ b2 := by
     rcases hn with hn | hn
     ·intro e; subst e; exact c7 _ hn g32
     ·exact hn.2
    obtain ⟨q1, q2⟩ := c6 n (hn.imp id (fun q => q.1))
    refine ⟨by omega, ?_⟩
    rcases q1 with q1 | q1
    ·exact hnF n (q1.resolve_right hne)
    ·exact ⟨fun hz => by have := r1.zlt n hz; omega, fun t ht => by have := (r1.flt t n ht).1; omega⟩
   have hsame : ∀ n, L1.Z n ∨ (∃ t, L1.F t n) → w1.heap[n]? = w.heap[n]? := fun n hn => by
    by_cases e : n = b2
    ·subst e; rw [hw1, hblk]
    ·rw [hw1n n e]
     refine c2.block n ?_ (fun hF => ?_)
     ·rcases hn with hn | ⟨t, hn⟩
      ·exact r1.zlt n hn
      ·exact (r1.flt t n hn).1
     ·have hB := hF.resolve_right e
      rcases hn with hn | ⟨t, hn⟩
      ·exact (hnF n hB).1 hn
      ·exact (hnF n hB).2 t hn
   have hnew : ∀ n, Z2 n ∧ ¬ zoneOf Lg lent n → n < w1.heap.size ∧ ∀ t, ¬ L1.F t n := fun n hn => by
    rcases c8.nw n hn.1 with q | ⟨q, q2⟩
    ·exact absurd q hn.2
    ·refine ⟨by rw [hw1s]; exact q2, ?_⟩
     rcases q with (q | q) | q
     ·exact (hnF n q).2
     ·exact absurd hn.1 (c9 n (.inr (by rw [q]; exact g32)))
     ·exact fun t ht => by have := (r1.flt t n ht).1; omega
   have r2 := ((r1.ext (by rw [hw1s]; exact c2.size) hsame).withR hfr).zg hnew fun n hn hz => c9 n (hn.imp id (fun q => q.1)) hz.1
   have hP2 : Place ⟨fun b => L1.Z b ∨ (Z2 b ∧ ¬ zoneOf Lg lent b), L1.F, L1.C, L1.D⟩ st1 w1 g [] s' cs1 (some ⟨b2, 0, none⟩) := ⟨k, s', f3, x3, hg1, by cases s' <;> trivial, ⟨f3, x3, get_nil _ _ _⟩, by rw [sub_nil, hL1C, hL1D]⟩
   obtain ⟨f5, x5, d1, B5, d2, d3, d4, d5, d6⟩ := r2.put hg1 hP2
   obtain ⟨f6, x6, hu2, hst2⟩ := put_spec hg1 hput
   have hln : cs2.length = cs1.length := g4.len.trans e3.len.symm
   have hChg : Chg w1 w' (some ⟨b2, 0, none⟩) cs1 cs2 := by
    refine .inr ⟨⟨b2, 0, none⟩, rfl, rfl, hln, fun n hn => (hw1n n hn).symm, fun cur e fr hc => ?_⟩
    rw [hw1] at hc
    obtain ⟨rfl, rfl, rfl⟩ : cs1.toArray = cur ∧ t0 = e ∧ ((0, 0) : Nat × Nat) = fr := by
     have := Option.some.inj hc
     injection this with a1 a2 a3
     exact ⟨a1, a2, a3⟩
    rw [wrArr_list _ _ _ (by simp; omega)]
    rw [n2]
    have : cs1.toArray.toList.drop (0 + cs2.length) = [] := by simp; omega
    rw [this]
    simp
   have r3 := d6 w' cs2 f' x' B2 Fr f6 x6 hit hChg hw1s.symm g4 (fun n hn => .inl (.inr ⟨g2 n hn, fun e => g31 (by rw [← e]; exact hn)⟩)) (fun n hn => ⟨.inl (.inl hn), fun h2 => c7 n hn (g2 n h2)⟩) hu2 (.inl rfl)
   rw [← hst2] at r3
   obtain ⟨L', z1, z2, z3⟩ := r3.result (lent := lent) hzz2 c4 hok (fun _ h => h) hb.1
   have hbF : ∀ n, B1 n ∨ n = b2 → L.F g n := fun n hn => hn.elim (e2 n) (fun e => by rw [e]; exact hb0.1)
   refine hk _ L' _ w' ⟨st2, pv, hb.2, rfl⟩ ⟨c2.os, c2.tape, c2.output, c2.size, fun n hn hL => c2.block n hn (fun hB => hL g (hbF n hB)), ⟨fun n hn => by rw [z1]; exact .inl (by rw [hL1Z]; exact hn), fun n hn => by
    rw [z1] at hn
    rcases hn with hn | hn
    ·exact .inl (by rw [← hL1Z]; exact hn)
    ·rcases c8.nw n hn.1 with q | ⟨q, _⟩
     ·exact absurd q hn.2
     ·exact .inr (q.imp (fun q => ⟨g, hbF n q⟩) id)⟩, fun t n hn => ?_⟩ z3
   have hFo : ∀ n, Fr n ∨ Fo n → (∃ t', L.F t' n) ∨ w.heap.size ≤ n := fun n hn => (c6 n hn).1.imp (fun q => ⟨g, hbF n q⟩) id
   rcases z2 t n hn with hn | hn
   ·simp only at hn
    split at hn
    ·rcases hn with hn | hn
     ·exact .inl ⟨g, hL1F g n hn.1⟩
     ·exact hFo n (.inr (g2 n hn))
    ·exact .inl ⟨t, hL1F t n hn⟩
   ·exact hFo n (.inl hn)
  ·exact hb.elim
 ·exact hb.elim
end
end Go.Proofs.YtoeblmcibheldaaGreatDoor.V
end
end

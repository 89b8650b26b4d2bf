/- The operations, one by one: append, make. No condition. -/
import Derived.Test.YteeklekfafedcaaV11
set_option linter.unusedVariables false
namespace Go.Proofs.Yteeklekfafedcaa.V
open Go Go.RowKit

theorem own_src {w : World} {Z : Nat → Prop} {e : TypeId} {s : Sh} {f : Fl} {ys : List s.ty} {v : Value} {B : Nat → Prop} (h : OwnR w e s.size (fun x c B' => Rep w Z s f x c B') s.zero ys [v] B) :
    ∃ Bs : Nat → Nat → Prop, Src w Z s f ys v Bs ∧ (∀ i b, i < ys.length → Bs i b → B b) ∧ ∀ i j b, i < ys.length → j < ys.length → i ≠ j → Bs i b → Bs j b → False := by
  rcases h with ⟨A, hA, rfl⟩ | ⟨g, cap, cur, rows, Bs, hA, h2, h3, h4, h5, h6, h7, h8⟩
  · have hA : v = .slice A 0 0 := by simpa using hA
    exact ⟨fun _ _ => False, ⟨A, 0, hA, fun hp => by simp at hp⟩, fun i b hi => by simp at hi, fun i j b hi => by simp at hi⟩
  · have hA : v = .slice (some ⟨g, 0, none⟩) ys.length cap := by simpa using hA
    refine ⟨Bs, ⟨_, cap, hA, fun hp => ⟨_, rfl, fun i hi => ?_⟩⟩, fun i b hi hb => ((h7 i hi).2.2.1 b hb).1, h8⟩
    obtain ⟨q1, q2, q3, q4⟩ := h7 i hi
    exact ⟨rows i, q1, fun j hj => by rw [cell_row h2]; exact q2 j hj, q4⟩

theorem Src.imp {w : World} {Z : Nat → Prop} {s : Sh} {f f' : Fl} {ys : List s.ty} {v : Value} {Bs Bs' : Nat → Nat → Prop} (h : Src w Z s f ys v Bs) (k : ∀ i c, i < ys.length → Rep w Z s f (ys.getD i s.zero) c (Bs i) → Rep w Z s f' (ys.getD i s.zero) c (Bs' i)) : Src w Z s f' ys v Bs' := by
  obtain ⟨X, c, h1, h2⟩ := h
  refine ⟨X, c, h1, fun hp => ?_⟩
  obtain ⟨ad, e1, e2⟩ := h2 hp
  exact ⟨ad, e1, fun i hi => by obtain ⟨c', q1, q2, q3⟩ := e2 i hi; exact ⟨c', q1, q2, k i c' hi q3⟩⟩

theorem fz_src {w : World} {Z : Nat → Prop} {e : TypeId} {s : Sh} {ys : List s.ty} {v : Value} {B : Nat → Prop} (h : Rep w Z (.sl e s) .fz ys [v] B) : Src w Z s .fz ys v (fun _ _ => False) := by
  obtain ⟨A, c, h1, h2, h3, h4⟩ := h
  have h1 : v = .slice A ys.length c := by simpa using h1
  refine ⟨A, c, h1, fun hp => ?_⟩
  obtain ⟨ad, e1, e2, e3⟩ := h4 hp
  exact ⟨ad, e1, e3⟩

section
variable {P : Program} {o : Oper} {L L1 : Lay} {st st1 : St} {a : Act} {w w' : World} {R : Nat → Prop} {T : List (Nat × TI)} {rt : St} {out : Out}

theorem src_of (h : Rel L st a w R) (hrt : ∀ g k s f x, rt.at g = .root k s f x → st.at g = .root k s f x) {pv : PV} {v : Value} (hv : ORep L st w pv v) {e : TypeId} {s : Sh} {ys : List s.ty} (hr : rowOf rt e s pv = some ys) (hpl : s.plain = true ∨ pv.isH = false) :
    Src w L.Z s (if s.plain then .own else .fz) ys v (fun _ _ => False) := by
  have fin : Src w L.Z s .fz ys v (fun _ _ => False) → Src w L.Z s (if s.plain then .own else .fz) ys v (fun _ _ => False) := by
    intro hS
    split
    · rename_i hp; exact hS.imp fun i c _ hR => hR.plain hp
    · exact hS
  cases pv with
  | emp =>
    simp only [rowOf] at hr
    obtain rfl := Option.some.inj hr
    obtain ⟨A, hv⟩ := hv
    exact ⟨A, 0, hv, fun hp => by simp at hp⟩
  | v agg s' x =>
    cases agg with
    | true => simp [rowOf] at hr
    | false =>
      simp only [rowOf] at hr
      obtain ⟨rfl, hx⟩ := castTo_some hr
      simp only at hx
      subst hx
      obtain ⟨cs, m1, m2⟩ := hv
      have m1 : cs = [v] := by simpa [mkV] using m1
      subst m1
      exact fin (fz_src m2)
  | h agg g p =>
    cases agg with
    | true => simp [rowOf] at hr
    | false =>
      have hp : s.plain = true := hpl.resolve_right (by simp [PV.isH])
      simp only [rowOf] at hr
      split at hr
      · rename_i s' f x hl
        split at hr
        · rename_i hf
          obtain ⟨rfl, hx⟩ := castTo_some hr
          simp only at hx
          subst hx
          obtain ⟨s1, cs1, ad1, q1, q2, _⟩ := hv
          have hl' := look_rt hrt hl
          obtain rfl := q1.shape hl'
          obtain ⟨_, _, B1, _, m4⟩ := h.place q1 hl'
          have q2 : cs1 = [v] := by simpa [mkV] using q2
          subst q2
          rw [if_pos hp]
          cases f with
          | fz => exact (fz_src m4).imp fun i c _ hR => hR.plain hp
          | own => obtain ⟨Bs, hS, _⟩ := own_src m4; exact hS.imp fun i c _ hR => hR.plain hp
          | ownf => obtain ⟨Bs, hS, _⟩ := own_src m4; exact hS.imp fun i c _ hR => hR.plain hp
          | io n c => obtain ⟨Bs, hS, _⟩ := own_src m4.1; exact hS.imp fun i c _ hR => hR.plain hp
          | kz A c => exact (fz_src (e := e) (B := fun _ => False) m4.1).imp fun i c _ hR => hR.plain hp
          | junk => cases hf
          | pr => cases hf
        · cases hr
      · cases hr
  | dead => simp [rowOf] at hr
  | adr => simp [rowOf] at hr
  | fadr => simp [rowOf] at hr
  | root => simp [rowOf] at hr
  | fn => simp [rowOf] at hr

theorem Rel.head (h : Rel L st a w R) {pv : PV} {v : Value} (hv : ORep L st w pv v) {e : TypeId} {s : Sh} {g f0 : Fl} {xs : List s.ty} {st' : St} (hh : headRow st e s g pv = some (xs, st')) (hg : g = .own ∧ f0 = .own ∨ g = .ownf ∧ f0 = .fz) :
    ∃ L' B1, Sub L' L ∧ Rel L' st' a w (fun b => R b ∨ B1 b) ∧ (∀ b, B1 b → ¬ R b ∧ ∃ t, L.F t b) ∧ OwnR w e s.size (fun x c B' => Rep w L.Z s f0 x c B') s.zero xs [v] B1 ∧ st'.length = st.length ∧ (pv.isH = false → st' = st) := by
  cases pv with
  | emp =>
    simp only [headRow, Option.some.injEq, Prod.mk.injEq] at hh
    obtain ⟨rfl, rfl⟩ := hh
    obtain ⟨A, hv⟩ := hv
    exact ⟨L, fun _ => False, Sub.refl L, ⟨h.size, h.defers, h.zlt, h.flt, h.dj, fun b hb => h.rlt b (hb.resolve_right id), fun t b hb hr => h.rdj t b hb (hr.resolve_right id), h.tmp⟩, fun _ h => h.elim, .inl ⟨A, by rw [hv], rfl⟩, rfl, fun _ => rfl⟩
  | h agg r p =>
    cases agg with
    | true => simp [headRow] at hh
    | false =>
      simp only [headRow] at hh
      split at hh
      · rename_i s' f x st2 ht
        split at hh
        · rename_i ys hy
          split at hh
          · rename_i hf
            obtain ⟨rfl, rfl⟩ := Prod.mk.inj (Option.some.inj hh)
            obtain ⟨rfl, hx⟩ := castTo_some hy
            simp only at hx
            subst hx
            obtain ⟨s1, cs1, ad1, q1, q2, _⟩ := hv
            have q2 : cs1 = [v] := by simpa [mkV] using q2
            subst q2
            obtain ⟨L', B1, k1, k2, k3, k4, k5⟩ := h.take ht q1
            refine ⟨L', B1, k1, k2, k3, ?_, k5, fun e => by cases e⟩
            rcases hf with rfl | ⟨hp, hf⟩
            · rcases hg with ⟨rfl, rfl⟩ | ⟨rfl, rfl⟩
              · exact k4
              · exact k4
            · have imp : ∀ f1 : Fl, OwnR w e s.size (fun x c B' => Rep w L.Z s f1 x c B') s.zero x [v] B1 → OwnR w e s.size (fun x c B' => Rep w L.Z s f0 x c B') s.zero x [v] B1 := fun f1 hR => hR.imp fun i c B' _ hr => hr.plain hp
              rcases hf with rfl | rfl
              · exact imp _ k4
              · exact imp _ k4
          · cases hh
        · cases hh
      · cases hh
  | dead => simp [headRow] at hh
  | v => simp [headRow] at hh
  | adr => simp [headRow] at hh
  | fadr => simp [headRow] at hh
  | root => simp [headRow] at hh
  | fn => simp [headRow] at hh

theorem append_fin {t : Nat} {e : TypeId} {s : Sh} {x y : Operand} {ti : TypeInfo} {z : Value} {f0 fr : Fl} {xs ys : List s.ty} {B1 B2 : Nat → Prop} {Bs2 : Nat → Nat → Prop} (h : Rel L st a w Free) (hs : Sub L1 L) (h1 : Rel L1 st1 a w R)
    (ho : o.op = .call ⟨.builtin .append, #[x, y], #[t, t]⟩) (hu : P.underlying t = some (.slice e)) (hi : P.info? e = some ti) (hsz : ti.size = s.size) (hz : ti.zero = some z) (hzc : z.cells.toList = s.encZ) (hp : 0 < s.size)
    (hf : f0 = .own ∧ fr = .own ∨ f0 = .fz ∧ fr = .ownf) (hx : OwnR w e s.size (fun x c B' => Rep w L.Z s f0 x c B') s.zero xs [a.eval x] B1) (hy : Src w L.Z s f0 ys (a.eval y) Bs2)
    (hBs : ∀ i b, i < ys.length → Bs2 i b → B2 b) (dj2 : ∀ i j b, i < ys.length → j < ys.length → i ≠ j → Bs2 i b → Bs2 j b → False) (d12 : ∀ b, B1 b → B2 b → False) (hB1 : ∀ b, B1 b → R b ∧ ∃ t, L.F t b) (hB2 : ∀ b, B2 b → R b ∧ ∃ t, L.F t b)
    (hl1 : (xs.length + ys.length) * ti.bytes ≤ 140737488355328) (hl2 : xs.length + ys.length ≤ 140737488355328) : Goes P o a w L st1 (.root (.val false) (.sl e s) fr (xs ++ ys)) := by
  have hlt : ∀ b, (∃ t, L.F t b) → b < w.heap.size ∧ ¬ L.Z b := fun b ⟨t, hb⟩ => h.flt t b hb
  have hzc' : z.cells.size = s.size := by rw [← Array.length_toList, hzc]; exact (Rep.zero w L.Z s Free).len
  obtain ⟨v', w', r1, r2, ⟨r3, r4, r5, r6⟩, r7⟩ := append_core (P := P) (ty := o.type) hu hi hz hsz hzc' hp hx hy hBs dj2 d12 (fun b hb => hlt b (hB1 b hb).2) (fun b hb => (hlt b (hB2 b hb).2).1) h.zlt hl1 hl2
  have hext : Rel L1 st1 a w' R := h1.ext r6 (fun b hb => r7 b (by rcases hb with hb | ⟨t, hb⟩; exact h1.zlt b hb; exact (h1.flt t b hb).1) (fun hb1 => by
    have := (hB1 b hb1).1
    rcases hb with hb | ⟨t, hb⟩
    · exact (h1.rlt b this).2 hb
    · exact h1.rdj t b hb this))
  have hrun : (execOp a.eval o).run P w = .ok (.value v') w' := by
    simp [execOp, ho, resolve, invoke, builtin, r1]
  refine goes_r (cs := [v']) (ad := none) (B := fun b => B1 b ∨ B2 b ∨ (b = w.heap.size ∧ b < w'.heap.size)) (Fd := fun b => B1 b ∨ B2 b ∨ (b = w.heap.size ∧ b < w'.heap.size)) hrun ⟨r3, r4, r5, r6, fun b hb hn => r7 b hb (fun hb1 => by obtain ⟨t, ht⟩ := (hB1 b hb1).2; exact hn t ht), hs.Z, fun t b hb => .inl (hs.F t b hb)⟩ hext ⟨rfl, fun _ => rfl, rfl⟩ (fun _ h => h) (fun A hA => by cases hA) ?_ (fun b hb => ?_) (fun b hb => ?_)
  · rw [hs.Z]
    rcases hf with ⟨rfl, rfl⟩ | ⟨rfl, rfl⟩
    · exact r2
    · exact r2
  · have hold : ∀ b, R b → (∃ t, L.F t b) → b < w'.heap.size ∧ ¬ L1.Z b ∧ ∀ t, ¬ L1.F t b := fun b hR hF => ⟨by have := (hlt b hF).1; omega, by rw [hs.Z]; exact (hlt b hF).2, fun t ht => h1.rdj t b ht hR⟩
    rcases hb with hb | hb | hb
    · exact hold b (hB1 b hb).1 (hB1 b hb).2
    · exact hold b (hB2 b hb).1 (hB2 b hb).2
    · obtain ⟨rfl, hb⟩ := hb
      refine ⟨hb, fun hz => ?_, fun t ht => ?_⟩
      · have := h1.zlt _ hz; omega
      · have := (h1.flt _ _ ht).1; omega
  · rcases hb with hb | hb | hb
    · exact .inl (hB1 b hb).2
    · exact .inl (hB2 b hb).2
    · exact .inr (by omega)

theorem lim_of {n b : Nat} (h : limOk n b = true) : n * b ≤ 140737488355328 ∧ n ≤ 140737488355328 := by simpa [limOk] using h

theorem pop_append (hT : TabOk P T) (h : Rel L st a w Free) (hrt : ∀ g k s f x, rt.at g = .root k s f x → st.at g = .root k s f x) {args : Array Operand} {ts : Array TypeId} (ho : o.op = .call ⟨.builtin .append, args, ts⟩) (hp : pop T rt st o = some out) (hc : out.c = true) : Goes P o a w L out.st out.pv ∧ (out.cl = true → out.st = st) := by
  unfold pop at hp
  rw [ho] at hp
  simp only at hp
  split at hp
  · rename_i x y t t' ha ht
    obtain rfl := arr2 ha
    obtain rfl := arr2 ht
    split at hp
    · rename_i e s b nf fs cm hi0
      obtain ⟨hu, ti, z, i1, i2, i3, i4, i5⟩ := (hT t _ hi0).sl e s rfl rfl
      split at hp
      · rename_i i hi
        split at hp
        · rename_i hst
          obtain ⟨rfl, rfl⟩ := hst
          have hby : ti.bytes = i.bytes := by
            obtain ⟨ti', z', q1, q2, q3, _⟩ := (hT e _ hi).info
            rw [i1] at q1
            obtain rfl := Option.some.inj q1
            exact q3
          split at hp
          · rename_i hpl
            split at hp
            · rename_i ys hys
              split at hp
              · rename_i xs st' hhd
                obtain rfl := (Option.some.inj hp)
                obtain ⟨l1, l2⟩ := lim_of hc
                have hsrc := src_of h hrt (h.opnd y) hys (by simpa using hpl)
                obtain ⟨L', B1, k1, k2, k3, k4, k5, k6⟩ := h.head (f0 := if i.sh.plain then .own else .fz) (h.opnd x) hhd (by cases i.sh.plain <;> simp)
                refine ⟨append_fin (B2 := Free) h k1 k2 ho hu i1 i2 i3 i4 i5 (f0 := if i.sh.plain then .own else .fz) (by cases i.sh.plain <;> simp) k4 hsrc (fun i b _ hb => hb) (fun i j b _ _ _ hb => hb.elim) (fun b _ hb => hb) (fun b hb => ⟨.inr hb, (k3 b hb).2⟩) (fun b hb => hb.elim) (by rw [hby]; exact l1) l2, fun hcl => k6 (by simpa using hcl)⟩
              · cases hp
            · cases hp
          · split at hp
            · rename_i ys st1 hhy
              split at hp
              · rename_i xs st2 hhx
                obtain rfl := (Option.some.inj hp)
                obtain ⟨l1, l2⟩ := lim_of hc
                obtain ⟨L1, B2, k1, k2, k3, k4, k5, k6⟩ := h.head (f0 := .own) (h.opnd y) hhy (.inl ⟨rfl, rfl⟩)
                obtain ⟨L2, B1, m1, m2, m3, m4, m5, m6⟩ := k2.head (f0 := .own) (k2.opnd x) hhx (.inl ⟨rfl, rfl⟩)
                rw [k1.Z] at m4
                obtain ⟨Bs, hS, hS1, hS2⟩ := own_src k4
                refine ⟨append_fin (B2 := B2) h (m1.trans k1) m2 ho hu i1 i2 i3 i4 i5 (f0 := .own) (.inl ⟨rfl, rfl⟩) m4 hS hS1 hS2 (fun b hb1 hb2 => (m3 b hb1).1 (.inr hb2)) (fun b hb => ⟨.inr hb, ?_⟩) (fun b hb => ⟨.inl (.inr hb), (k3 b hb).2⟩) (by rw [hby]; exact l1) l2, fun hcl => by cases hcl⟩
                obtain ⟨t, ht⟩ := (m3 b hb).2
                exact k1.F t b ht
              · cases hp
            · cases hp
        · cases hp
      · cases hp
    · cases hp
  · cases hp

theorem zero_cells {z : Value} {s : Sh} (h : z.cells.toList = s.encZ) {n i j : Nat} (hi : i < n) (hj : j < s.size) (hl : s.encZ.length = s.size) : (madeCells z.cells (n * s.size))[i * s.size + j]? = s.encZ[j]? := by
  have hlt : i * s.size + j < n * s.size := Nat.lt_of_lt_of_le (Nat.add_lt_add_left hj _) (by rw [← Nat.succ_mul]; exact Nat.mul_le_mul_right _ hi)
  have hsz : z.cells.size = s.size := by rw [← Array.length_toList, h, hl]
  have hm : (i * s.size + j) % z.cells.size = j := by
    rw [hsz, Nat.mul_comm, Nat.mul_add_mod]
    exact Nat.mod_eq_of_lt hj
  have hj' : j < z.cells.size := by omega
  rw [← h]
  simp [madeCells, hlt, hm, hj']

theorem pop_makeSlice (hT : TabOk P T) (h : Rel L st a w Free) {t : Nat} {l c : Operand} (ho : o.op = .makeSlice t l c) (hp : pop T rt st o = some out) (hc : out.c = true) : Goes P o a w L out.st out.pv ∧ (out.cl = true → out.st = st) := by
  unfold pop at hp
  rw [ho] at hp
  simp only at hp
  have hl0 := h.opnd l
  have hc0 := h.opnd c
  split at hp
  · rename_i e s b nf fs cm hi0
    obtain ⟨hu, ti, z, i1, i2, i3, i4, i5⟩ := (hT t _ hi0).sl e s rfl rfl
    split at hp
    · rename_i i hi
      split at hp
      · rename_i n m hl hm
        split at hp
        · rename_i hst
          obtain rfl := hst
          obtain rfl := (Option.some.inj hp)
          refine ⟨?_, fun _ => rfl⟩
          have hby : ti.bytes = i.bytes := by
            obtain ⟨ti', z', q1, q2, q3, _⟩ := (hT e _ hi).info
            rw [i1] at q1
            obtain rfl := Option.some.inj q1
            exact q3
          rw [hl] at hl0
          rw [hm] at hc0
          simp only [Bool.and_eq_true, decide_eq_true_eq] at hc
          obtain ⟨⟨c1, c2⟩, c3⟩ := hc
          obtain ⟨l1, l2⟩ := lim_of c3
          have c1 : @LE.le Int _ 0 n := c1
          obtain ⟨k, rfl⟩ : ∃ k : Nat, n = (k : Int) := ⟨n.toNat, (Int.toNat_of_nonneg c1).symm⟩
          have c2 : m = (k : Int) := c2.symm
          subst c2
          simp only [Int.toNat_natCast] at l1 l2 ⊢
          have hb' : (ti.bytes : Int) * (k : Int) ≤ 281474976710656 := by
            have : ((ti.bytes * k : Nat) : Int) ≤ 281474976710656 := by rw [hby, Nat.mul_comm]; omega
            rwa [Int.natCast_mul] at this
          have hr := run_make (P := P) w t e ti z hu i1 i3 .i64 .i64 k k (by omega) (Int.le_refl _) hb' (by omega)
          simp only [Int.toNat_natCast, i2] at hr
          have hzl := (Rep.zero w L.Z i.sh Free).len
          refine goes_r (cs := [.slice (some ⟨w.heap.size, 0, none⟩) k k]) (ad := none) (B := fun b => b = w.heap.size) (Fd := fun b => b = w.heap.size) (v := .slice (some ⟨w.heap.size, 0, none⟩) k k) ?_ (Stp.ext (Ext.alloc w _)) (h.grow (Ext.alloc w (.cells (madeCells z.cells (k * i.sh.size)) e))) ⟨rfl, fun _ => rfl, rfl⟩ (fun _ h => h) (fun A hA => by cases hA) ?_ (fun b hb => ?_) (fun b hb => .inr (by omega))
          · simp [execOp, ho, hl0.int, hc0.int, hr]
          · refine .inr ⟨w.heap.size, k, _, fun _ => i.sh.encZ, fun _ _ => False, by simp, heap_alloc_new w _, by simp, by simp only [maxLen]; omega, size_madeCells _ _, rfl, fun j hj => ⟨hzl, fun q hq => zero_cells i4 (by simpa using hj) hq hzl, fun b hb => hb.elim, ?_⟩, fun _ _ _ _ _ _ hb => hb.elim⟩
            have : (List.replicate k i.sh.zero).getD j i.sh.zero = i.sh.zero := by
              have hj' : j < k := by simpa using hj
              simp [List.getD_eq_getElem?_getD, hj']
            rw [this]
            exact Rep.zero _ _ _ _
          · subst hb
            refine ⟨by simp, fun hz => ?_, fun t ht => ?_⟩
            · have := h.zlt _ hz; omega
            · have := (h.flt _ _ ht).1; omega
        · cases hp
      · cases hp
    · cases hp
  · cases hp
end
end Go.Proofs.Yteeklekfafedcaa.V

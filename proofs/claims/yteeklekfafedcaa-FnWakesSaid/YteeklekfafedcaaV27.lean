/- A region that clears the end of one's own row. No condition. -/
import Derived.Test.YteeklekfafedcaaV26
set_option linter.unusedVariables false
namespace Go.Proofs.Yteeklekfafedcaa.V
open Go Go.RowKit

section
variable {P : Program} {T : List (Nat × TI)} {ops : Array Oper}

theorem wpOps_step {Q : Exit → Act → World → Prop} {i : Nat} {r : List Nat} {o : Oper} {a : Act} {w : World} (ho : ops[i]? = some o) (hq : o.guard = none) (h : o.wp P a w (wpOps P ops Q r) Q) : wpOps P ops Q (i :: r) a w := by
  have hw : Region.wanted o (yielded ops a.tmps) = true := by unfold Region.wanted; rw [hq]
  simp only [wpOps, ho, hw, if_true]
  exact .inl h

theorem zeroCells_at (z : Array Value) (n k : Nat) (hk : k < n * z.size) : (Builtin.zeroCells z n).toList[k]? = z.toList[k % z.size]? := by
  have hz : 0 < z.size := by
    rcases Nat.eq_zero_or_pos z.size with h | h
    · rw [h] at hk; omega
    · exact h
  have hm := Nat.mod_lt k hz
  simp [Builtin.zeroCells, hk, hm]
theorem zeroCells_len (z : Array Value) (n : Nat) : (Builtin.zeroCells z n).toList.length = n * z.size := by simp [Builtin.zeroCells]

/-- the end of a row put to zero -/
def cleared {s : Sh} (xs : List s.ty) (i : Nat) : List s.ty := xs.take i ++ List.replicate (xs.length - i) s.zero

theorem run_clearEnd {w : World} {Z : Nat → Prop} {t e : TypeId} {s : Sh} {xs : List s.ty} {v : Value} {B : Nat → Prop} {i : Nat} (hu : P.underlying t = some (.slice e)) {ti : TypeInfo} {z : Value} (i1 : P.info? e = some ti) (i2 : ti.size = s.size) (i3 : ti.zero = some z) (i4 : z.cells.toList = s.encZ) (hpos : 0 < s.size) (hpl : s.plain = true)
    (hR : OwnR w e s.size (fun x c B' => Rep w Z s .own x c B') s.zero xs [v] B) (hi : i ≤ xs.length) (A : Option Addr) (c : Nat) (hv : v = .slice A xs.length c) :
    ∃ w', (Builtin.clear_ #[t] 0 #[sliced A i xs.length c s.size]).run P w = .ok (.tuple #[]) w' ∧ ExtF w w' B ∧ w'.heap.size = w.heap.size ∧ OwnR w' e s.size (fun x c B' => Rep w' Z s .own x c B') s.zero (cleared xs i) [v] B := by
  have hcl : (cleared xs i).length = xs.length := by simp only [cleared, List.length_append, List.length_take, List.length_replicate]; omega
  have hzs : z.cells.size = s.size := by
    rw [← Array.length_toList, i4]
    exact (Rep.zero w Z s (fun _ => False)).len
  by_cases h0 : i = xs.length
  · subst h0
    have e : cleared xs xs.length = xs := by simp [cleared]
    rw [e]
    refine ⟨w, ?_, ⟨rfl, rfl, rfl, Nat.le_refl _, fun _ _ _ => rfl⟩, rfl, hR⟩
    have key : ∀ (A1 : Option Addr) (c1 : Nat), (Builtin.clear_ #[t] 0 #[.slice A1 0 c1]).run P w = .ok (.tuple #[]) w := by
      intro A1 c1
      cases A1 <;> simp [Builtin.clear_, run_underlying hu]
    simp only [sliced, Nat.sub_self]
    exact key _ _
  · have hR0 := hR
    rcases hR with ⟨A', _, rfl⟩ | ⟨g, cap, cur, rows, Bs, hA, h2, h3, h4, h5, h6, h7, h8⟩
    · simp at h0 hi; omega
    · have hA : v = .slice (some ⟨g, 0, none⟩) xs.length cap := by simpa using hA
      rw [hv] at hA
      injection hA with a1 a2 a3
      subst a1; subst a3
      have hzl : (Builtin.zeroCells z.cells (xs.length - i)).toList.length = (xs.length - i) * s.size := by rw [zeroCells_len, hzs]
      have hin : i * s.size + (xs.length - i) * s.size = xs.length * s.size := by rw [← Nat.add_mul]; congr 1; omega
      have hcs : xs.length * s.size ≤ c * s.size := Nat.mul_le_mul_right _ h3
      have hpos2 : 0 < (xs.length - i) * s.size := Nat.mul_pos (by omega) hpos
      let cs0 : List Value := ((cur.toList.drop (i * s.size)).take ((xs.length - i) * s.size))
      have hcs0 : cs0.length = (xs.length - i) * s.size := by simp only [cs0, List.length_take, List.length_drop, Array.length_toList]; omega
      have hAt : At w (some ⟨g, i * s.size, none⟩) cs0 := by
        intro A' hA' j hj
        obtain rfl := Option.some.inj hA'
        rw [cell_at rfl h2 j]
        simp only [cs0]
        rw [List.getElem?_take_of_lt (by rw [hcs0] at hj; exact hj), List.getElem?_drop]
        simp
      have hone : ∀ u ∈ (Builtin.zeroCells z.cells (xs.length - i)).toList, u.oneCell' = true := by
        intro u hu'
        obtain ⟨k, hk, rfl⟩ := List.mem_iff_getElem.1 hu'
        have h9 := zeroCells_at z.cells (xs.length - i) k (by rw [hzs]; rw [hzl] at hk; exact hk)
        rw [List.getElem?_eq_getElem hk] at h9
        rw [i4] at h9
        have := List.mem_of_getElem? h9.symm
        exact (Rep.zero w Z s (fun _ => False)).one _ this
      obtain ⟨w', r1, r2, r3, r4, r5, r6, r7⟩ := run_storeAt (P := P) (n := (Builtin.zeroCells z.cells (xs.length - i)).toList) hAt (by rw [hzl, hcs0]) (by rw [hcs0]; exact hpos2) h2 hone
      have hc' := r2.here _ _ _ h2
      refine ⟨w', ?_, ⟨r5, r6, r7, by omega, fun b hb hn => r2.other b (fun e => hn (by rw [e]; exact h6))⟩, r4, ?_⟩
      · have hc9 : ¬ c = i := by omega
        have hsl : sliced (some ⟨g, 0, none⟩) i xs.length c s.size = .slice (some ⟨g, i * s.size, none⟩) (xs.length - i) (c - i) := by
          have ha : (⟨g, 0, none⟩ : Addr).add (i * s.size) = ⟨g, i * s.size, none⟩ := by unfold Addr.add; split <;> simp_all
          unfold sliced
          rw [if_neg hc9, Option.map_some, ha]
        rw [hsl]
        obtain ⟨m, hm⟩ : ∃ m, xs.length - i = m + 1 := ⟨xs.length - i - 1, by omega⟩
        rw [hm] at r1 ⊢
        have hzv : (zeroValue e).run P w = .ok z w := by simp [zeroValue, typeInfo, i1, i3]
        simp [Builtin.clear_, run_underlying hu, hzv, r1]
      · have hrow : ∀ j, j < xs.length → ∀ k, k < s.size → j * s.size + k < xs.length * s.size := fun j hj k hk => by
          have := Nat.mul_le_mul_right s.size (show j + 1 ≤ xs.length from hj)
          rw [Nat.add_mul, Nat.one_mul] at this
          omega
        refine .inr ⟨g, c, wrArr cur (i * s.size) (Builtin.zeroCells z.cells (xs.length - i)).toList, fun j => if j < i then rows j else s.encZ, fun _ _ => False, by rw [hv, hcl], hc', by rw [hcl]; exact h3, h4, by rw [wrArr_size]; exact h5, h6, fun j hj => ?_, fun _ _ _ _ _ _ h => h.elim⟩
        rw [hcl] at hj
        obtain ⟨q1, q2, q3, q4⟩ := h7 j hj
        by_cases hji : j < i
        · simp only [if_pos hji]
          refine ⟨q1, fun k hk => ?_, fun b hb => hb.elim, ?_⟩
          · rw [wrArr_out _ _ _ _ (.inl ?_)]
            · exact q2 k hk
            · have := Nat.mul_le_mul_right s.size (show j + 1 ≤ i from hji)
              rw [Nat.add_mul, Nat.one_mul] at this
              omega
          · have : (cleared xs i).getD j s.zero = xs.getD j s.zero := by
              unfold cleared
              rw [List.getD_eq_getElem?_getD, List.getElem?_append_left (by simp; omega), List.getElem?_take_of_lt hji, ← List.getD_eq_getElem?_getD]
            rw [this]
            exact q4.plain hpl
        · simp only [if_neg hji]
          refine ⟨(Rep.zero w Z s (fun _ => False)).len, fun k hk => ?_, fun b hb => hb.elim, ?_⟩
          · have hk2 : (j - i) * s.size + k < (xs.length - i) * s.size := by
              have := Nat.mul_le_mul_right s.size (show j - i + 1 ≤ xs.length - i by omega)
              rw [Nat.add_mul, Nat.one_mul] at this
              omega
            have e1 : j * s.size + k = i * s.size + ((j - i) * s.size + k) := by
              rw [← Nat.add_assoc, ← Nat.add_mul]; congr 2; omega
            rw [e1, wrArr_in _ _ _ _ (by rw [hzl]; omega) (by rw [hzl]; exact hk2), zeroCells_at _ _ _ (by rw [hzs]; exact hk2), i4, hzs, Nat.mul_comm (j - i), Nat.mul_add_mod, Nat.mod_eq_of_lt hk]
          · have : (cleared xs i).getD j s.zero = s.zero := by
              unfold cleared
              rw [List.getD_eq_getElem?_getD, List.getElem?_append_right (by simp; omega), List.getElem?_replicate]
              split <;> rfl
            rw [this]
            exact Rep.zero w' Z s _

/-- a row's content turns while its block stays one's own -/
theorem Rel.turn {L : Lay} {st : St} {a : Act} {w w' : World} (h : Rel L st a w Free) {g : Nat} {agg : Bool} {s : Sh} {f f' : Fl} {x x' : s.ty} (hg : st.at g = .root (.val agg) s f x) {st1 st2 : St} (h1 : V.put st g [] s .junk x hitS = some st1) (h2 : V.put st1 g [] s f' x' hitS = some st2)
    (hw : ∀ B : Nat → Prop, Rep w L.Z s f x (L.C g) B → (∀ b, B b → L.F g b) → ExtF w w' B ∧ Rep w' L.Z s f' x' (L.C g) B) : ∃ L', Stp L L' w w' ∧ Rel L' st2 a w' Free := by
  obtain ⟨r1, B0, r2, r3, r4⟩ := h.root hg
  have hP : Place L st w g [] s (L.C g) (L.D g) := ⟨_, s, f, x, hg, by cases s <;> trivial, ⟨f, x, get_nil _ _ _⟩, sub_nil _ _ _ _⟩
  obtain ⟨f1, x1, e1, B1, e2, e3, e4, e5, e6⟩ := h.put hg hP
  rw [get_nil] at e1
  cases Option.some.inj e1
  obtain ⟨hx, hR⟩ := hw B1 e3 e2
  obtain ⟨f3, x3, hu, hst1⟩ := put_spec hg h1
  have q1 := e6 w (L.C g) .junk x (fun _ => False) B1 f3 x3 hitS (.inl ⟨rfl, rfl⟩) rfl e3.tojunk (fun _ h => h.elim) (fun b hb => ⟨.inr hb, id⟩) hu (.inr ⟨rfl, rfl⟩)
  rw [← hst1] at q1
  generalize hL1 : (⟨L.Z, fun t b => if t = g then (L.F g b ∧ ¬ B1 b) ∨ False else L.F t b, fun t => if t = g then csub s (L.C g) [] (L.C g) else L.C t, L.D⟩ : Lay) = L1 at q1
  have hL1F : ∀ t n, L1.F t n → L.F t n := by
    intro t n hn
    rw [← hL1] at hn
    simp only at hn
    split at hn
    · rename_i e; subst e; exact hn.elim (fun q => q.1) False.elim
    · exact hn
  have hL1Z : L1.Z = L.Z := by rw [← hL1]
  have hL1C : L1.C g = L.C g := by rw [← hL1]; simp only [if_true, csub_nil]
  have hg1 : st1.at g = .root (.val agg) s f3 x3 := by
    rw [hst1, St.at_set, if_pos ⟨rfl, by rw [List.length_map]; exact root_lt hg⟩]
  have hnF : ∀ n, B1 n → ¬ L1.Z n ∧ ∀ t, ¬ L1.F t n := fun n hn => ⟨(q1.rlt n hn).2, fun t ht => q1.rdj t n ht hn⟩
  have q2 : Rel L1 st1 a w' B1 := q1.extF hx hnF
  have hP2 : Place L1 st1 w' g [] s (L.C g) (L1.D g) := ⟨_, s, f3, x3, hg1, by cases s <;> trivial, ⟨f3, x3, get_nil _ _ _⟩, by rw [sub_nil, hL1C]⟩
  obtain ⟨f5, x5, d1, B5, d2, d3, d4, d5, d6⟩ := q2.put hg1 hP2
  obtain ⟨f6, x6, hu2, hst2⟩ := put_spec hg1 h2
  have q3 := d6 w' (L.C g) f' x' B1 Free f6 x6 hitS (.inl ⟨rfl, rfl⟩) rfl (by rw [hL1Z]; exact hR) (fun n hn => .inl hn) (fun n hn => hn.elim) hu2 (.inr ⟨rfl, rfl⟩)
  rw [← hst2] at q3
  refine ⟨_, ?_, q3⟩
  refine ⟨hx.os, hx.tape, hx.output, hx.size, fun n hn hL => hx.block n hn (fun hB => hL g (e2 n hB)), hL1Z, fun t n hn => ?_⟩
  simp only at hn
  split at hn
  · rcases hn with hn | hn
    · exact .inl ⟨g, hL1F g n hn.1⟩
    · exact .inl ⟨g, e2 n hn⟩
  · exact .inl ⟨t, hL1F t n hn⟩

theorem getD_put {a : Act} {d t : Nat} {v : Value} (h : d < a.tmps.size) : (a.put (some d) v).tmps.getD t undef = if t = d then v else a.tmps.getD t undef := by
  show (a.tmps.setIfInBounds d v).getD t undef = _
  rw [getD_set_eq]
  by_cases e : t = d
  · rw [if_pos ⟨e, h⟩, if_pos e]
  · rw [if_neg (fun q => e q.1), if_neg e]

/-- move, move, slice, clear: the end of a row of one's own is put to zero -/
theorem VW.clearR (hT : TabOk P T) {rid : Nat} {o0 o1 o2 o3 : Oper} {x : Operand} {y : Nat} {A0 B0 C0 : Nat} {t e : TypeId} {s : Sh} {bb nf : Nat} {fs : List (Bool × Sh)} {cm : Bool} {g : Nat} {xs : List s.ty} {i : Nat} {st st1 st2 : St} {Q : Exit → St → Prop} {ats : Array TypeId}
    (e0 : o0.op = .move x) (d0 : o0.dst = some A0) (q0 : o0.guard = none) (e1 : o1.op = .move (.tmp y)) (d1 : o1.dst = some B0) (q1 : o1.guard = none) (e2 : o2.op = .slice t (.tmp A0) (some (.tmp B0)) none none) (d2 : o2.dst = some C0) (q2 : o2.guard = none) (e3 : o3.op = .call ⟨.builtin .clear, #[.tmp C0], ats⟩) (e3' : ats = #[t]) (d3 : o3.dst = none) (q3 : o3.guard = none)
    (ht : tget T t = some ⟨.sl e s, false, bb, nf, fs, cm⟩) (hpl : s.plain = true) (hx : ref st x = .h false g []) (hy : st.at y = .v false (.int .i64) (i : Int)) (hi : i ≤ xs.length) (hg : st.at g = .root (.val false) (.sl e s) .own xs)
    (nA : A0 < st.length ∧ (st.at A0).isRoot = false) (nB : B0 < st.length ∧ (st.at B0).isRoot = false) (nC : C0 < st.length ∧ (st.at C0).isRoot = false) (hAB : A0 ≠ B0 ∧ y ≠ A0)
    (h1 : put (((st.set A0 .dead).set B0 .dead).set C0 .dead) g [] (.sl e s) .junk xs hitS = some st1) (h2 : put st1 g [] (.sl e s) .own (cleared xs i) hitS = some st2) (hQ : Q .normal st2) : VW P (.region rid #[o0, o1, o2, o3] false) st Q := by
  intro L a w hr
  obtain ⟨hu, ti, z, i1, i2, i3, i4, hpos⟩ := (hT t _ ht).sl e s rfl rfl
  have hvx := hr.opnd x
  rw [hx] at hvx
  obtain ⟨s1, cs1, ad1, hP, hm, _⟩ := hvx
  obtain ⟨k', s', f', x', hg', hOk, ⟨f9, x9, hget⟩, hsub⟩ := id hP
  rw [hg] at hg'
  cases hg'
  rw [get_nil] at hget
  cases Option.some.inj hget
  rw [sub_nil] at hsub
  obtain ⟨hC, hD⟩ := Prod.mk.inj (Option.some.inj hsub)
  have hcs : cs1 = [a.eval x] := by simpa [mkV] using hm
  subst hcs
  obtain ⟨rt1, B0', rt2, rt3, rt4⟩ := hr.root hg
  rw [hC] at rt4
  obtain ⟨A, c, hval, hcap, _⟩ := OwnR.take rt4
  have hsz := hr.size
  have hy0 : a.tmps.getD y undef = .int .i64 (i : Int) := by
    have := hr.orep (t := y) (by rw [hy]; rfl)
    rw [hy] at this
    exact this.int
  refine wp_region ?_
  show wpOps P #[o0, o1, o2, o3] _ [0, 1, 2, 3] a w
  refine wpOps_step (o := o0) rfl q0 ?_
  have x0 : (execOp a.eval o0).run P w = .ok (.value (a.eval x)) w := by simp [execOp, e0]
  unfold Oper.wp
  rw [x0, Oper.upon_value, d0]
  have r1 : Rel L (st.set A0 .dead) (a.put (some A0) (a.eval x)) w Free := hr.setO nA.2 rfl trivial
  refine wpOps_step (o := o1) rfl q1 ?_
  have y1 : (a.put (some A0) (a.eval x)).eval (.tmp y) = .int .i64 (i : Int) := by
    show (a.put (some A0) (a.eval x)).tmps.getD y undef = _
    rw [getD_put (by omega), if_neg hAB.2]; exact hy0
  have x1 : (execOp (a.put (some A0) (a.eval x)).eval o1).run P w = .ok (.value (.int .i64 (i : Int))) w := by simp [execOp, e1, y1]
  unfold Oper.wp
  rw [x1, Oper.upon_value, d1]
  have nB' : (St.at (st.set A0 .dead) B0).isRoot = false := by
    rw [St.at_set]; split
    · rfl
    · exact nB.2
  have r2 := r1.setO (v := .int .i64 (i : Int)) nB' (pv := .dead) rfl trivial
  generalize ha2 : ((a.put (some A0) (a.eval x)).put (some B0) (.int .i64 (i : Int))) = a2 at r2 ⊢
  have v0 : a2.eval (.tmp A0) = .slice A xs.length c := by
    rw [← ha2]
    show ((a.put (some A0) (a.eval x)).put (some B0) (.int .i64 (i : Int))).tmps.getD A0 undef = _
    rw [getD_put (by simp [Act.put]; omega), if_neg hAB.1, getD_put (by omega), if_pos rfl, hval]
  have v1 : a2.eval (.tmp B0) = .int .i64 (i : Int) := by
    rw [← ha2]
    show ((a.put (some A0) (a.eval x)).put (some B0) (.int .i64 (i : Int))).tmps.getD B0 undef = _
    rw [getD_put (by simp [Act.put]; omega), if_pos rfl]
  refine wpOps_step (o := o2) rfl q2 ?_
  have hz : ∀ w, (sizeOf e).run P w = .ok s.size w := fun w => by rw [run_size i1, i2]
  have hrun := run_slice_gen (P := P) (w := w) hu hz A xs.length c (some (.int .i64 (i : Int))) none i xs.length (.inr ⟨_, rfl⟩) (.inl ⟨rfl, rfl⟩) hi hcap
  have x2 : (execOp a2.eval o2).run P w = .ok (.value (sliced A i xs.length c s.size)) w := by
    simp [execOp, e2, v0, v1, hrun]
  unfold Oper.wp
  rw [x2, Oper.upon_value, d2]
  have nC' : (St.at ((st.set A0 .dead).set B0 .dead) C0).isRoot = false := by
    rw [St.at_set]; split
    · rfl
    · rw [St.at_set]; split
      · rfl
      · exact nC.2
  have r3 := r2.setO (v := sliced A i xs.length c s.size) nC' (pv := .dead) rfl trivial
  have v2 : (a2.put (some C0) (sliced A i xs.length c s.size)).eval (.tmp C0) = sliced A i xs.length c s.size := by
    show (a2.put (some C0) (sliced A i xs.length c s.size)).tmps.getD C0 undef = _
    rw [getD_put (by have := r2.size; simp at this; omega), if_pos rfl]
  generalize ha3 : a2.put (some C0) (sliced A i xs.length c s.size) = a3 at r3 v2 ⊢
  refine wpOps_step (o := o3) rfl q3 ?_
  obtain ⟨w', c1, c2, c3, c4⟩ := run_clearEnd (P := P) hu i1 i2 i3 i4 hpos hpl rt4 hi A c hval
  have x3 : (execOp a3.eval o3).run P w = .ok (.value (.tuple #[])) w' := by
    subst e3'
    have hb : ∀ cs, builtin .clear #[t] o3.type cs #[sliced A i xs.length c s.size] = (do pure (.value (← Builtin.clear_ #[t] 0 #[sliced A i xs.length c s.size]))) := fun cs => rfl
    simp [execOp, e3, resolve, invoke, v2, hb, c1]
  unfold Oper.wp
  rw [x3, Oper.upon_value, d3]
  have hgd : ∀ d, (st.at d).isRoot = false → d ≠ g := fun d hd e => by rw [e, hg] at hd; cases hd
  have hg3 : St.at (((st.set A0 .dead).set B0 .dead).set C0 .dead) g = .root (.val false) (.sl e s) .own xs := by
    rw [St.at_set, if_neg (fun q => hgd _ nC.2 q.1.symm), St.at_set, if_neg (fun q => hgd _ nB.2 q.1.symm), St.at_set, if_neg (fun q => hgd _ nA.2 q.1.symm), hg]
  obtain ⟨L', s1, s2⟩ := r3.turn hg3 h1 h2 (w' := w') fun B hB hBF => by
    rw [hC] at hB ⊢
    obtain ⟨w2, k1, k2, k3, k4⟩ := run_clearEnd (P := P) hu i1 i2 i3 i4 hpos hpl hB hi A c hval
    rw [c1] at k1
    obtain rfl : w' = w2 := by injection k1
    exact ⟨k2, k4⟩
  exact ⟨L', st2, s1, s2, hQ⟩
end
end Go.Proofs.Yteeklekfafedcaa.V

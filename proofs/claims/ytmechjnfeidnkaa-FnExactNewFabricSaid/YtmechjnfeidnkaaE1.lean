/- A call that writes one row of a row of rows of one's own. No condition. -/
import Derived.Test.YtmechjnfeidnkaaA3
set_option linter.unusedVariables false
set_option linter.unnecessarySimpa false
set_option linter.unusedSimpArgs false
namespace Go.Proofs.Ytmechjnfeidnkaa.V
open Go Go.RowKit
theorem getD_setL {α : Type} (xs : List α) (i j : Nat) (y z : α) (hi : i < xs.length) : (xs.set i y).getD j z = if j = i then y else xs.getD j z := by
  rw [List.getD_eq_getElem?_getD, List.getD_eq_getElem?_getD, List.getElem?_set]
  by_cases h : i = j
  · subst h; simp [hi]
  · rw [if_neg h, if_neg (fun e => h e.symm)]
/-- a row's own element taken out and put back -/
theorem own_el {w : World} {Z : Nat → Prop} {e e2 : TypeId} {s2 : Sh} {xs : List (List s2.ty)} {v : Value} {B : Nat → Prop} {i : Nat} (hi : i < xs.length) (hB : ∀ b, B b → b < w.heap.size) (hR : OwnR w e 1 (fun x c B' => Rep w Z (.sl e2 s2) .own x c B') [] xs [v] B) :
    ∃ A c u, ∃ Bi : Nat → Prop, v = .slice (some A) xs.length c ∧ rowCells w (A.add (i * 1)) 1 = [u] ∧ (∀ b, Bi b → B b) ∧ Rep w Z (.sl e2 s2) .own (xs.getD i []) [u] Bi ∧
      ∀ (w' : World) (y : List s2.ty) (Bo : Nat → Prop), ExtF w w' Bi → Rep w' Z (.sl e2 s2) .own y [u] Bo → (∀ b, Bo b → Bi b ∨ w.heap.size ≤ b) → (∀ b, Z b → b < w.heap.size ∧ ¬ B b) →
        OwnR w' e 1 (fun x c B' => Rep w' Z (.sl e2 s2) .own x c B') [] (xs.set i y) [v] (fun b => (B b ∧ ¬ Bi b) ∨ Bo b) := by
  rcases hR with ⟨A, _, rfl⟩ | ⟨g, cap, cur, rows, Bs, hA, q2, q3, q4, q5, q6, q7, q8⟩
  · have : ([] : List (List s2.ty)).length = 0 := rfl
    omega
  have hv : v = .slice (some ⟨g, 0, none⟩) xs.length cap := by simpa using hA
  obtain ⟨p1, p2, p3, p4⟩ := q7 i hi
  obtain ⟨u, hu⟩ : ∃ u, rows i = [u] := by
    match h : rows i, p1 with
    | [u], _ => exact ⟨u, rfl⟩
  have hadd : (⟨g, 0, none⟩ : Addr).add (i * 1) = ⟨g, i * 1, none⟩ := by unfold Addr.add; split <;> simp_all
  refine ⟨⟨g, 0, none⟩, cap, u, Bs i, hv, ?_, fun b hb => (p3 b hb).1, by rw [hu] at p4; exact p4, ?_⟩
  · refine rowCells_eq rfl fun j hj => ?_
    rw [add_add, cell_at rfl q2, ← hu, ← p2 j hj]
    show cur[0 + (i * 1 + j)]? = _
    rw [Nat.zero_add]
  · intro w' y Bo hx hy hBo hZ
    have hgB : ¬ Bs i g := fun h => (p3 g h).2 rfl
    have hg' : w'.heap[g]? = some (.cells cur e (0, 0)) := by rw [hx.block g (hB g q6) hgB]; exact q2
    refine .inr ⟨g, cap, cur, rows, fun j => if j = i then Bo else Bs j, by rw [hv, List.length_set], hg', by rw [List.length_set]; exact q3, q4, q5, .inl ⟨q6, hgB⟩, fun j hj => ?_, fun j k b hj hk hne h1 h2 => ?_⟩
    · rw [List.length_set] at hj
      obtain ⟨r1, r2, r3, r4⟩ := q7 j hj
      by_cases e : j = i
      · subst e
        refine ⟨r1, r2, fun b hb => ?_, ?_⟩
        · have hb : Bo b := by
            have hb : (if j = j then Bo else Bs j) b := hb
            rwa [if_pos rfl] at hb
          refine ⟨.inr hb, ?_⟩
          rintro rfl
          rcases hBo _ hb with h | h
          · exact hgB h
          · have := hB _ q6
            omega
        · simp only [if_true]
          rw [getD_setL _ _ _ _ _ hi, if_pos rfl, hu]
          exact hy
      · refine ⟨r1, r2, fun b hb => ?_, ?_⟩
        · have hb : (if j = i then Bo else Bs j) b := hb
          rw [if_neg e] at hb
          have := r3 b hb
          exact ⟨.inl ⟨this.1, fun h => q8 j i b hj hi e hb h⟩, this.2⟩
        · simp only [if_neg e]
          rw [getD_setL _ _ _ _ _ hi, if_neg e]
          exact r4.frame (fun _ h => h) (fun b hb => by
            rcases hb with hb | hb
            · exact hx.block b (hZ b hb).1 (fun h => (hZ b hb).2 (p3 b h).1)
            · exact hx.block b (hB b (r3 b hb).1) (fun h => q8 j i b hj hi e hb h))
    · rw [List.length_set] at hj hk
      have h1 : (if j = i then Bo else Bs j) b := h1
      have h2 : (if k = i then Bo else Bs k) b := h2
      by_cases e1 : j = i
      · subst e1
        have e2 : ¬ k = j := fun e => hne e.symm
        simp only [if_true] at h1
        rw [if_neg e2] at h2
        rcases hBo _ h1 with h | h
        · exact q8 j k b hj hk hne h h2
        · have := hB _ ((q7 k hk).2.2.1 b h2).1
          omega
      · by_cases e2 : k = i
        · subst e2
          rw [if_neg e1] at h1
          simp only [if_true] at h2
          rcases hBo _ h2 with h | h
          · exact q8 j k b hj hk hne h1 h
          · have := hB _ ((q7 j hj).2.2.1 b h1).1
            omega
        · rw [if_neg e1] at h1
          rw [if_neg e2] at h2
          exact q8 j k b hj hk hne h1 h2
section
variable {P : Program} {T : List (Nat × TI)} {o : Oper} {st st1 st2 : St}
/-- a call that writes one row of a row of rows -/
theorem does_el {fop : Operand} {args : Array Operand} {ts : Array TypeId} {f : FuncId} {ps : List PV} {g i : Nat} {e e2 : TypeId} {s2 : Sh} {fl : Fl} {xs : List (List s2.ty)} {y : List s2.ty} {r : PV} {xo : Operand} (ho : o.op = .call ⟨.value fop, args, ts⟩)
    (hxo : args.toList[0]? = some xo) (hx : ref st xo = .h false g [.el i]) (hg : st.at g = .root (.val false) (.sl e (.sl e2 s2)) fl xs) (hfl : fl = .own ∨ ∃ n c, fl = .io n c) (hi : i < xs.length)
    (hj : put st g [] (.sl e (.sl e2 s2)) .junk xs hitS = some st1) (hput : put st1 g [] (.sl e (.sl e2 s2)) fl (xs.set i y) hitS = some st2) (hf : ref st1 fop = .fn f []) (hps : lendX st1 (.root (.val false) (.sl e2 s2) .own (xs.getD i [])) 0 args.toList = some (ps, false))
    (hv : VX P f ps 0 (fun pv ot => pv = r ∧ ot = .root (.val false) (.sl e2 s2) .own y)) (hd : nonroot st2 o.dst = true) : Does P o st (fun st' => st' = setD st2 o.dst r) := by
  intro L a w next Q h hk
  obtain ⟨rr1, B0, rr2, rr3, rr4⟩ := h.root hg
  have hC : L.C g = [a.tmps.getD g undef] := by simpa [mkV] using rr1.1
  have hP : Place L st w g [] (.sl e (.sl e2 s2)) (L.C g) (L.D g) := ⟨.val false, .sl e (.sl e2 s2), fl, xs, hg, (by unfold Ok; trivial), ⟨fl, xs, get_nil (.sl e (.sl e2 s2)) fl xs⟩, sub_nil _ _ _ _⟩
  obtain ⟨f1, x1, e1, B1, e2', e3, e4, e5, e6⟩ := h.put hg hP
  rw [get_nil] at e1
  cases Option.some.inj e1
  obtain ⟨f3, x3, hu, hst1⟩ := put_spec hg hj
  have r1 := e6 w (L.C g) .junk xs (fun _ => False) B1 f3 x3 hitS (.inl ⟨rfl, rfl⟩) rfl e3.tojunk (fun _ h => h.elim) (fun b hb => ⟨.inr hb, id⟩) hu (.inr ⟨rfl, rfl⟩)
  rw [← hst1] at r1
  generalize hL1 : (⟨L.Z, fun t b => if t = g then (L.F g b ∧ ¬ B1 b) ∨ False else L.F t b, fun t => if t = g then csub (.sl e (.sl e2 s2)) (L.C g) [] (L.C g) else L.C t, L.D⟩ : Lay) = L1 at r1
  have hL1F : ∀ t n, L1.F t n → L.F t n := by
    intro t n hn
    rw [← hL1] at hn
    simp only at hn
    split at hn
    · rename_i e; subst e; exact hn.elim (fun q => q.1) False.elim
    · exact hn
  have hL1Z : L1.Z = L.Z := by rw [← hL1]
  have hL1C : L1.C g = L.C g := by rw [← hL1]; simp only [if_true, csub_nil]
  have hg1 : st1.at g = .root (.val false) (.sl e (.sl e2 s2)) f3 x3 := by
    rw [hst1, St.at_set, if_pos ⟨rfl, by rw [List.length_map]; exact root_lt hg⟩]
  have hnF : ∀ n, B1 n → ¬ L1.Z n ∧ ∀ t, ¬ L1.F t n := fun n hn => ⟨(r1.rlt n hn).2, fun t ht => r1.rdj t n ht hn⟩
  have hO : OwnR w e 1 (fun x c B' => Rep w L.Z (.sl e2 s2) .own x c B') [] xs [a.tmps.getD g undef] B1 := by
    rw [hC] at e3
    rcases hfl with rfl | ⟨n, c, rfl⟩
    · exact e3
    · exact e3.1
  obtain ⟨A, cp, u, Bi, u1, u2, u3, u4, u5⟩ := own_el hi (fun b hb => (r1.rlt b hb).1) hO
  have hval : a.eval xo = u := by
    have hv0 := h.opnd xo
    rw [hx] at hv0
    obtain ⟨s1, cs1, ad1, hP0, hm, _⟩ := hv0
    obtain ⟨k', s', f', x', hg', hOk, ⟨f9, x9, hget⟩, hsub⟩ := hP0
    rw [hg] at hg'
    cases hg'
    rw [hC, u1] at hsub
    simp only [sub] at hsub
    have hs1 : Sh.sl e2 s2 = s1 := by
      rcases hfl with rfl | ⟨n, c, rfl⟩
      · simp only [get] at hget
        exact congrArg Sigma.fst (Option.some.inj hget)
      · simp only [get] at hget
        exact congrArg Sigma.fst (Option.some.inj hget)
    have hcs1 : cs1 = [u] := by
      have h9 : rowCells w (A.add (i * (Sh.sl e2 s2).size)) (Sh.sl e2 s2).size = [u] := u2
      rw [h9] at hsub
      exact (Prod.mk.inj (Option.some.inj hsub)).1.symm
    subst hs1
    rw [hcs1] at hm
    simpa [mkV] using hm.symm
  have hvals : ∀ z, args.toList[0]? = some z → GRep w (zoneOf L1 (false || ([] : List Cap).any isAdr)) Bi (.root (.val false) (.sl e2 s2) .own (xs.getD i [])) (a.eval z) := fun z hz => by
    rw [hxo] at hz
    obtain rfl := Option.some.inj hz
    rw [hval]
    exact ⟨[u], none, Bi, ⟨rfl, fun _ => rfl, rfl⟩, fun _ h => h, (fun A hA => by cases hA), u4.frame (fun n hn => .inl (by rw [hL1Z]; exact hn)) (fun _ _ => rfl)⟩
  obtain ⟨vals, k1, k2, k3⟩ := callx_vals (F := Bi) (cs := []) r1 ho hf rfl hps (by simpa using hv) rfl (fun n hn => ⟨(r1.rlt n (u3 n hn)).1, fun hz => hz.elim (hnF n (u3 n hn)).1 fun q => by obtain ⟨t, ht⟩ := q.2; exact (hnF n (u3 n hn)).2 t ht⟩) hvals
  unfold Oper.wp
  rw [k2]
  rw [Oper.upon_enter]
  refine k3.mono fun e0 w' ⟨v, pv, ot, Fr, Fo, c1, c2, c3, c4, c5, c6, c7⟩ => ?_
  subst c1
  show next (a.put o.dst v) w'
  obtain ⟨rfl, rfl⟩ := c3
  have hsz := c2.size
  have hfr : ∀ n, ((B1 n ∧ ¬ Bi n) ∨ Fr n ∨ Fo n) → n < w'.heap.size ∧ ¬ L1.Z n ∧ ∀ t, ¬ L1.F t n := fun n hn => by
    rcases hn with hn | hn
    · exact ⟨Nat.lt_of_lt_of_le (r1.rlt n hn.1).1 hsz, hnF n hn.1⟩
    · obtain ⟨q1, q2⟩ := c6 n hn
      refine ⟨q2, ?_⟩
      rcases q1 with q1 | q1
      · exact hnF n (u3 n q1)
      · exact ⟨fun hz => by have := r1.zlt n hz; omega, fun t ht => by have := (r1.flt t n ht).1; omega⟩
  have r2 := (r1.extF c2 (fun n hn => hnF n (u3 n hn))).withR hfr
  have hP2 : Place L1 st1 w' g [] (.sl e (.sl e2 s2)) (L1.C g) (L1.D g) := ⟨.val false, .sl e (.sl e2 s2), f3, x3, hg1, (by unfold Ok; trivial), ⟨f3, x3, get_nil (.sl e (.sl e2 s2)) f3 x3⟩, sub_nil _ _ _ _⟩
  obtain ⟨cs2, ad2, B2, g1, g2, g3, g4⟩ := (c5 u (by rw [← hval]; exact k1 _ hxo)).resolve_left (by simp)
  obtain rfl : cs2 = [u] := by simpa [mkV] using g1.1
  have g4 : Rep w' L.Z (.sl e2 s2) .own y [u] B2 := g4.frame (fun n hn => hn.elim (fun h => by rw [← hL1Z]; exact h) fun q => by cases q.1) (fun _ _ => rfl)
  have hO2 := u5 w' y B2 c2 g4 (fun b hb => (c6 b (.inr (g2 b hb))).1) (fun b hb => ⟨h.zlt b hb, fun hB => (hnF b hB).1 (by rw [hL1Z]; exact hb)⟩)
  have hRep : Rep w' L1.Z (.sl e (.sl e2 s2)) fl (xs.set i y) (L1.C g) (fun b => (B1 b ∧ ¬ Bi b) ∨ B2 b) := by
    rw [hL1C, hL1Z]
    rcases hfl with rfl | ⟨n, c, rfl⟩
    · rw [hC]; exact hO2
    · have hlen : L.C g = [.slice (some ⟨n, 0, none⟩) xs.length c] := e3.2
      refine ⟨by rw [hC]; exact hO2, ?_⟩
      show L.C g = [.slice (some ⟨n, 0, none⟩) (List.length (xs.set i y)) c]
      rw [List.length_set]
      exact hlen
  obtain ⟨f5, x5, d1, B5, d2, d3, d4, d5, d6⟩ := r2.put hg1 hP2
  obtain ⟨f6, x6, hu2, hst2⟩ := put_spec hg1 hput
  have r3 := d6 w' (L1.C g) fl (xs.set i y) (fun b => (B1 b ∧ ¬ Bi b) ∨ B2 b) Fr f6 x6 hitS (.inl ⟨rfl, rfl⟩) rfl hRep (fun n hn => .inl (hn.imp id fun q => .inr (g2 n q))) (fun n hn => ⟨.inl (.inr (.inl hn)), fun q => by
    rcases q with q | q
    · rcases (c6 n (.inl hn)).1 with q1 | q1
      · exact q.2 q1
      · have := (r1.rlt n q.1).1
        omega
    · exact c7 n hn (g2 n q)⟩) hu2 (.inr ⟨rfl, rfl⟩)
  rw [← hst2] at r3
  obtain ⟨L', z1, z2, z3⟩ := r3.result (lent := false) (fun _ n hn => hn.elim id fun q => by cases q.1) c4 (by cases pv <;> rfl) (fun _ h => h) hd
  refine hk _ L' _ w' rfl ⟨c2.os, c2.tape, c2.output, c2.size, fun n hn hL => c2.block n hn (fun hB => hL g (e2' n (u3 n hB))), z1.trans hL1Z, fun t n hn => ?_⟩ z3
  have hFo : ∀ n, Fr n ∨ Fo n → (∃ t', L.F t' n) ∨ w.heap.size ≤ n := fun n hn => (c6 n hn).1.imp (fun q => ⟨g, e2' n (u3 n q)⟩) id
  rcases z2 t n hn with hn | hn
  · simp only at hn
    split at hn
    · rcases hn with hn | hn | hn
      · exact .inl ⟨g, hL1F g n hn.1⟩
      · exact .inl ⟨g, e2' n hn.1⟩
      · exact hFo n (.inr (g2 n hn))
    · exact .inl ⟨t, hL1F t n hn⟩
  · exact hFo n (.inl hn)
variable {ops : Array Oper}
theorem vops_pre (hT : TabOk P T) {K : St → Prop} {Q : Exit → Act → World → Prop} (rest : List Nat) : ∀ (os : List Oper) (i : Nat), (ops.toList.drop i).take os.length = os → ∀ {L : Lay} {st : St} {a : Act} {w : World}, vops P T ops os st K → Rel L st a w Free → (∀ st' L' a' w', K st' → Stp L L' w w' → Rel L' st' a' w' Free → wpOps P ops Q rest a' w') → wpOps P ops Q (List.range' i os.length ++ rest) a w
  | [], i, hi, L, st, a, w, hv, h, hk => by
    simp only [List.length_nil, List.range'_zero, List.nil_append]
    exact hk st L a w hv (Stp.refl _ _) h
  | o :: r, i, hi, L, st, a, w, hv, h, hk => by
    have hcons : ∃ tl, ops.toList.drop i = o :: tl ∧ tl.take r.length = r := by
      cases hd : ops.toList.drop i with
      | nil => rw [hd] at hi; simp at hi
      | cons x tl =>
        rw [hd, List.length_cons, List.take_succ_cons] at hi
        injection hi with h1 h2
        exact ⟨tl, by rw [h1], h2⟩
    obtain ⟨tl, hd, htl⟩ := hcons
    have ho : ops[i]? = some o := by
      have : (ops.toList.drop i)[0]? = some o := by rw [hd]; rfl
      rw [List.getElem?_drop] at this
      simpa using this
    have hi' : (ops.toList.drop (i + 1)).take r.length = r := by rw [← List.drop_drop, hd]; exact htl
    simp only [List.length_cons, List.range'_succ, List.cons_append, wpOps, ho]
    unfold vops at hv
    have hg := vguard_ok h hv
    cases hw : Region.wanted o (yielded ops a.tmps) with
    | true =>
      rw [hw] at hg
      simp only at hg
      rw [if_pos rfl]
      left
      refine vread_ok hT hg (fun st1 pv hK => hK.1) L a w _ _ h fun st' L' a' w' ⟨st1, pv, hK, e⟩ hs hr => ?_
      subst e
      exact vops_pre hT rest r (i + 1) hi' hK.2 hr fun st2 L2 a2 w2 k1 k2 k3 => hk st2 L2 a2 w2 k1 (hs.trans k2) k3
    | false =>
      rw [hw] at hg
      simp only at hg
      rw [if_neg (by simp)]
      obtain ⟨L', s1, s2⟩ := skip_ok h hg.1
      exact vops_pre hT rest r (i + 1) hi' hg.2 s2 fun st2 L2 a2 w2 k1 k2 k3 => hk st2 L2 a2 w2 k1 (s1.trans k2) k3
/-- an ordered region with one operation by its own law -/
theorem VW.regE (hT : TabOk P T) (c : Nat) {id : Nat} {Q : Exit → St → Prop} (h : ∀ K : St → Prop, (∀ s o s2, ops[c]? = some o → o.guard = none → Does P o s (fun s' => s' = s2) → vops P T ops (ops.toList.drop (c + 1)) s2 (Q .normal) → K s) → vops P T ops (ops.toList.take c) st K) (hc : c < ops.size) : VW P (.region id ops false) st Q := by
  intro L a w hr
  refine wp_region ?_
  have hlen : (ops.toList.take c).length = c := by rw [List.length_take, Array.length_toList]; omega
  have hrange : List.range ops.size = List.range' 0 (ops.toList.take c).length ++ (c :: List.range' (c + 1) (ops.toList.drop (c + 1)).length) := by
    rw [hlen, List.length_drop, Array.length_toList, List.range_eq_range']
    obtain ⟨d, hd⟩ : ∃ d, ops.size = c + (d + 1) := ⟨ops.size - c - 1, by omega⟩
    rw [hd, show c + (d + 1) - (c + 1) = d by omega, ← List.range'_append_1, Nat.zero_add, List.range'_succ]
  rw [hrange]
  refine vops_pre hT _ (ops.toList.take c) 0 (by rw [hlen, List.drop_zero]) (h (fun s => ∃ o s2, ops[c]? = some o ∧ o.guard = none ∧ Does P o s (fun s' => s' = s2) ∧ vops P T ops (ops.toList.drop (c + 1)) s2 (Q .normal)) (fun s o s2 h1 h2 h3 h4 => ⟨o, s2, h1, h2, h3, h4⟩)) hr fun s L1 a1 w1 ⟨o, s2, h1, h2, h3, h4⟩ hs1 hr1 => ?_
  refine wpOps_step h1 h2 ?_
  refine h3 L1 a1 w1 _ _ hr1 fun s3 L2 a2 w2 e hs2 hr2 => ?_
  subst e
  exact vops_ok (Q := fun e a' w' => ∃ L' st', Stp L L' w w' ∧ Rel L' st' a' w' Free ∧ Q e st') hT (ops.toList.drop (c + 1)) (c + 1) rfl h4 hr2 fun s4 L4 a4 w4 k1 k2 k3 => ⟨L4, s4, (hs1.trans hs2).trans k2, k3, k1⟩
end
end Go.Proofs.Ytmechjnfeidnkaa.V

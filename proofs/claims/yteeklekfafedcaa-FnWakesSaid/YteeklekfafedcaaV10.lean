/- The operations, one by one: fourth part. No condition. -/
import Derived.Test.YteeklekfafedcaaV9
set_option linter.unusedVariables false
namespace Go.Proofs.Yteeklekfafedcaa.V
open Go Go.RowKit

theorem cells_field {cs : List Value} {o m k : Nat} (h : o + m ≤ k) (hl : cs.length = k) : ((cs.drop o).take m).length = m := by simp; omega
theorem getElem?_field {cs : List Value} {o m j : Nat} (hj : j < m) : ((cs.drop o).take m)[j]? = cs[o + j]? := by
  rw [List.getElem?_take_of_lt hj, List.getElem?_drop]

theorem tup_at {w : World} : ∀ (n : Nat) (aggs : List Bool) {s : Sh} {g : Bool} {f : Fl} {x : s.ty} {s1 : Sh} {f1 : Fl} {x1 : s1.ty} {cs : List Value}, aggs[n]? = some g → get s f x (fpath n aggs.length) = some ⟨s1, f1, x1⟩ → tupOk aggs s = true → cs.length = s.size →
    ∃ c1, sub w s cs none (fpath n aggs.length) = some (c1, none) ∧ (tupV aggs s cs)[n]? = some (aggV g c1) ∧ Ok s f x (fpath n aggs.length) ∧ (g = false → s1.isSl = true ∨ s1.plain = true ∧ s1.size = 1) ∧ c1.length = s1.size := by
  intro n
  induction n with
  | zero =>
    intro aggs s g f x s1 f1 x1 cs hg hget hok hl
    match aggs with
    | [] => simp at hg
    | [g0] =>
      obtain rfl := by simpa using hg
      have hfp : fpath 0 ([g0] : List Bool).length = [] := rfl
      rw [hfp] at hget ⊢
      rw [get_nil] at hget
      cases Option.some.inj hget
      refine ⟨cs, sub_nil _ _ _ _, rfl, by cases s <;> trivial, fun e => ?_, hl⟩
      subst e
      simpa [tupOk] using hok
    | g0 :: h0 :: r =>
      obtain rfl := by simpa using hg
      have hfp : fpath 0 (g0 :: h0 :: r : List Bool).length = [.l] := by simp [fpath]
      rw [hfp] at hget ⊢
      cases s with
      | pr a b =>
        have hget : get a f.l x.1 [] = some ⟨s1, f1, x1⟩ := hget
        rw [get_nil] at hget
        cases Option.some.inj hget
        refine ⟨cs.take s1.size, by show sub w s1 _ none [] = _; rw [sub_nil], rfl, by show Ok s1 _ _ []; cases s1 <;> trivial, fun e => ?_, by simp only [Sh.size] at hl; simp; omega⟩
        subst e
        simp only [tupOk, Bool.and_eq_true] at hok
        simpa using hok.1
      | unit => simp [tupOk] at hok
      | int _ => simp [tupOk] at hok
      | bool => simp [tupOk] at hok
      | str => simp [tupOk] at hok
      | sl _ _ => simp [tupOk] at hok
  | succ n ih =>
    intro aggs s g f x s1 f1 x1 cs hg hget hok hl
    match aggs with
    | [] => simp at hg
    | [g0] => simp at hg
    | g0 :: h0 :: r =>
      cases s with
      | pr a b =>
        have hg' : (h0 :: r)[n]? = some g := by simpa using hg
        simp only [tupOk, Bool.and_eq_true] at hok
        obtain ⟨c1, k1, k2, k3, k4, k5⟩ := ih (h0 :: r) (f := f.r) (cs := cs.drop a.size) hg' hget hok.2 (by simp only [Sh.size] at hl; simp; omega)
        exact ⟨c1, k1, by simpa [tupV] using k2, k3, k4, k5⟩
      | unit => simp [tupOk] at hok
      | int _ => simp [tupOk] at hok
      | bool => simp [tupOk] at hok
      | str => simp [tupOk] at hok
      | sl _ _ => simp [tupOk] at hok

section
variable {P : Program} {o : Oper} {L L1 : Lay} {st st1 : St} {a : Act} {w w' : World} {R : Nat → Prop} {T : List (Nat × TI)} {rt : St} {out : Out}

theorem pop_fieldAddr (hT : TabOk P T) (h : Rel L st a w Free) (hrt : ∀ g k s f x, rt.at g = .root k s f x → st.at g = .root k s f x) {t n : Nat} {x : Operand} (ho : o.op = .fieldAddr t x n) (hp : pop T rt st o = some out) : out.c = true ∧ Goes P o a w L out.st out.pv ∧ (out.cl = true → out.st = st) := by
  unfold pop at hp
  rw [ho] at hp
  simp only at hp
  have hv := h.opnd x
  split at hp
  · rename_i i hi
    have hTt := hT t i hi
    split at hp
    · rename_i g p hx
      rw [hx] at hv
      split at hp
      · rename_i s f y hl
        split at hp
        · rename_i hc
          obtain ⟨hs, hn, hag⟩ := hc
          obtain rfl := (Option.some.inj hp)
          refine ⟨rfl, ?_, fun _ => rfl⟩
          obtain ⟨s1, cs1, A, q1, q2⟩ := hv
          have hl' := look_rt hrt hl
          obtain rfl := q1.shape hl'
          subst hs
          obtain ⟨fs, u1, u2, u3⟩ := hTt.str hag
          obtain ⟨fd, agg1, s1, of, fi, v1, v2, v3, v4, v5, v6, v7, v8, v9, v10⟩ := (u3 n hn).ex
          obtain ⟨k1, ⟨f2, x2, k2⟩, k3, k4, k5⟩ := field_at n i.nf v3 f y
          obtain ⟨_, _, B1, _, m4⟩ := h.place q1 hl'
          refine goes_o (v := .pointer (some (A.add of))) ?_ (Stp.refl _ _) h rfl ⟨s1, (cs1.drop of).take s1.size, A.add of, q1.app hl' k1 k2 (k4 w cs1 (some A) m4.len), rfl⟩
          have hne : ¬ s1.size = 0 := by omega
          simp [execOp, ho, Instr.fieldAt, run_underlying u1, v1, Instr.sureAddr, q2, fieldPlace, run_size v5, v6, hne, v4]
        · cases hp
      · cases hp
    · rename_i s y0 hx
      rw [hx] at hv
      split at hp
      · rename_i y hy
        split at hp
        · rename_i s' f' y' hg
          split at hp
          · rename_i hc
            obtain ⟨hn, hag⟩ := hc
            obtain rfl := (Option.some.inj hp)
            refine ⟨rfl, ?_, fun _ => rfl⟩
            obtain ⟨rfl, hy⟩ := castTo_some hy
            simp only at hy
            subst hy
            obtain ⟨ad, cs, q1, q2, q3, q4, q5⟩ := hv
            obtain ⟨fs, u1, u2, u3⟩ := hTt.str hag
            obtain ⟨fd, agg1, s1, of, fi, v1, v2, v3, v4, v5, v6, v7, v8, v9, v10⟩ := (u3 n hn).ex
            obtain ⟨k1, ⟨f2, x2, k2⟩, k3, k4, k5⟩ := field_at n i.nf v3 .fz y0
            have e1 := k2.symm.trans hg
            obtain rfl : s1 = s' := congrArg Sigma.fst (Option.some.inj e1)
            refine goes_o (v := .pointer (some (ad.add of))) ?_ (Stp.refl _ _) h rfl ⟨ad.add of, (cs.drop of).take s1.size, rfl, cells_field k3 q2, by rw [add_block]; exact q3, fun j hj => ?_, k5 w L.Z cs y' q5 ⟨f', hg⟩⟩
            · have hne : ¬ s1.size = 0 := by omega
              simp [execOp, ho, Instr.fieldAt, run_underlying u1, v1, Instr.sureAddr, q1, fieldPlace, run_size v5, v6, hne, v4]
            · rw [add_add, getElem?_field hj]
              exact q4 _ (by omega)
          · cases hp
        · cases hp
      · cases hp
    · cases hp
  · cases hp

theorem pop_field (hT : TabOk P T) (h : Rel L st a w Free) (hrt : ∀ g k s f x, rt.at g = .root k s f x → st.at g = .root k s f x) {t n : Nat} {x : Operand} (ho : o.op = .field t x n) (hp : pop T rt st o = some out) : out.c = true ∧ Goes P o a w L out.st out.pv ∧ (out.cl = true → out.st = st) := by
  unfold pop at hp
  rw [ho] at hp
  simp only at hp
  have hv := h.opnd x
  split at hp
  · rename_i i hi
    have hTt := hT t i hi
    split at hp
    · rename_i g p agg s2 hx hfs
      rw [hx] at hv
      split at hp
      · rename_i s f y hl
        split at hp
        · rename_i hss
          subst hss
          split at hp
          · rename_i s' f' y' hg
            split at hp
            · rename_i hc
              obtain ⟨hss, hn, hag, hfin⟩ := hc
              obtain rfl := (Option.some.inj hp)
              refine ⟨rfl, ?_, fun _ => rfl⟩
              subst hss
              obtain ⟨s1, cs1, ad1, q1, q2, _⟩ := hv
              have hl' := look_rt hrt hl
              obtain rfl := q1.shape hl'
              have q2 : a.eval x = .agg cs1.toArray := by simpa [mkV] using q2
              obtain ⟨fs, u1, u2, u3⟩ := hTt.str hag
              obtain ⟨fd, agg1, s1, of, fi, v1, v2, v3, v4, v5, v6, v7, v8, v9, v10⟩ := (u3 n hn).ex
              rw [hfs] at v2
              obtain ⟨rfl, rfl⟩ := Prod.mk.inj (Option.some.inj v2)
              obtain ⟨k1, ⟨f2, x2, k2⟩, k3, k4, k5⟩ := field_at n i.nf v3 f y
              obtain ⟨_, _, B1, _, m4⟩ := h.place q1 hl'
              have hP := q1.app hl' k1 k2 (k4 w cs1 ad1 m4.len)
              have hl2 : look st g (p ++ fpath n i.nf) = some ⟨s', f', y'⟩ := by
                unfold look at hl' ⊢
                split at hl'
                · rw [get_app _ _ hl']; exact hg
                · cases hl'
              obtain ⟨_, _, B2, _, m5⟩ := h.place hP hl2
              have hlen := cells_field k3 m4.len
              have hrun : ∃ u, (execOp a.eval o).run P w = .ok (.value u) w ∧ mkV agg ((cs1.drop of).take s'.size) u := by
                cases hagg : agg with
                | true =>
                  have e : cs1.toArray.extract of (of + s'.size) = ((cs1.drop of).take s'.size).toArray := by
                    apply Array.ext'
                    simp
                  exact ⟨.agg ((cs1.drop of).take s'.size).toArray, by simp [execOp, ho, Instr.field, run_underlying u1, v1, q2, asAgg, part, run_isAgg v9, v8, hagg, run_size v5, v6, v4], rfl⟩
                | false =>
                  have h1 := v10 hagg
                  obtain ⟨u, hu⟩ : ∃ u, (cs1.drop of).take s'.size = [u] := List.length_eq_one_iff.1 (by rw [hlen, h1])
                  have e : cs1[of]? = some u := by
                    have := getElem?_field (cs := cs1) (o := of) (m := s'.size) (j := 0) (by omega)
                    rw [hu] at this
                    simpa using this.symm
                  exact ⟨u, by simp [execOp, ho, Instr.field, run_underlying u1, v1, q2, asAgg, part, run_isAgg v9, v8, hagg, v4, e], hu⟩
              obtain ⟨u, hrun, hmk⟩ := hrun
              unfold loaded
              by_cases hpl : (s'.plain || Fl.allfz s' f') = true
              · rw [if_pos hpl]
                refine goes_o hrun (Stp.refl _ _) h rfl ⟨_, hmk, ?_⟩
                simp only [Bool.or_eq_true] at hpl
                rcases hpl with hpl | hpl
                · exact m5.plain hpl
                · exact m5.allfz hpl
              · rw [if_neg hpl]
                refine goes_o hrun (Stp.refl _ _) h rfl ⟨s', _, _, hP, hmk, fun e => ?_⟩
                subst e
                simp only [Bool.or_eq_true, not_or, Bool.not_eq_true] at hpl
                simpa [hpl.1] using hfin
            · cases hp
          · cases hp
        · cases hp
      · cases hp
    · rename_i s y0 agg s2 hx hfs
      rw [hx] at hv
      split at hp
      · rename_i y hy
        split at hp
        · rename_i s' f' y' hg
          split at hp
          · rename_i hc
            obtain ⟨hss, hn, hag⟩ := hc
            obtain rfl := (Option.some.inj hp)
            refine ⟨rfl, ?_, fun _ => rfl⟩
            obtain ⟨rfl, hy⟩ := castTo_some hy
            simp only at hy
            subst hy
            subst hss
            obtain ⟨cs, q1, q5⟩ := hv
            have q1 : a.eval x = .agg cs.toArray := by simpa [mkV] using q1
            obtain ⟨fs, u1, u2, u3⟩ := hTt.str hag
            obtain ⟨fd, agg1, s1, of, fi, v1, v2, v3, v4, v5, v6, v7, v8, v9, v10⟩ := (u3 n hn).ex
            rw [hfs] at v2
            obtain ⟨rfl, rfl⟩ := Prod.mk.inj (Option.some.inj v2)
            obtain ⟨k1, ⟨f2, x2, k2⟩, k3, k4, k5⟩ := field_at n i.nf v3 .fz y0
            have hR := k5 w L.Z cs y' q5 ⟨f', hg⟩
            have hlen := cells_field k3 q5.len
            cases hagg : agg with
            | true =>
              refine goes_o (v := .agg ((cs.drop of).take s'.size).toArray) ?_ (Stp.refl _ _) h rfl ⟨_, rfl, hR⟩
              have e : cs.toArray.extract of (of + s'.size) = ((cs.drop of).take s'.size).toArray := by
                apply Array.ext'
                simp
              simp [execOp, ho, Instr.field, run_underlying u1, v1, q1, asAgg, part, run_isAgg v9, v8, hagg, run_size v5, v6, v4]
            | false =>
              have h1 := v10 hagg
              obtain ⟨u, hu⟩ : ∃ u, (cs.drop of).take s'.size = [u] := List.length_eq_one_iff.1 (by rw [hlen, h1])
              refine goes_o (v := u) ?_ (Stp.refl _ _) h rfl ⟨[u], rfl, hu ▸ hR⟩
              have e : cs[of]? = some u := by
                have := getElem?_field (cs := cs) (o := of) (m := s'.size) (j := 0) (by omega)
                rw [hu] at this
                simpa using this.symm
              simp [execOp, ho, Instr.field, run_underlying u1, v1, q1, asAgg, part, run_isAgg v9, v8, hagg, v4, e]
          · cases hp
        · cases hp
      · cases hp
    · cases hp
  · cases hp

theorem pop_indexAddr (hT : TabOk P T) (h : Rel L st a w Free) (hrt : ∀ g k s f x, rt.at g = .root k s f x → st.at g = .root k s f x) {t : Nat} {x y : Operand} (ho : o.op = .indexAddr t x y) (hp : pop T rt st o = some out) (hc : out.c = true) : Goes P o a w L out.st out.pv ∧ (out.cl = true → out.st = st) := by
  unfold pop at hp
  rw [ho] at hp
  simp only at hp
  have hx0 := h.opnd x
  have hy0 := h.opnd y
  split at hp
  · rename_i e s b nf fs cm hi0
    obtain ⟨hu, ti, z, i1, i2, i3, i4, i5⟩ := (hT t _ hi0).sl e s rfl rfl
    have hz : ∀ w, (sizeOf e).run P w = .ok s.size w := fun w => by rw [run_size i1, i2]
    split at hp
    · rename_i k n hy
      rw [hy] at hy0
      have hyv := hy0.int
      split at hp
      · rename_i s' xs hx
        rw [hx] at hx0
        split at hp
        · rename_i ys hys
          obtain rfl := (Option.some.inj hp)
          obtain ⟨rfl, hxs⟩ := castTo_some hys
          simp only at hxs
          subst hxs
          refine ⟨?_, fun _ => rfl⟩
          simp only [decide_eq_true_eq] at hc
          obtain ⟨c1, c2⟩ := hc
          have c1 : @LE.le Int _ 0 n := c1
          have c2 : @LT.lt Int _ n xs.length := c2
          obtain ⟨cs, m1, A, c, rfl, q1, q1', q2⟩ := hx0
          have hval : a.eval x = .slice A xs.length c := by simpa [mkV] using m1.symm
          obtain ⟨ad, rfl, e2, e3⟩ := q2 (by omega)
          obtain ⟨c', k1, k2, k3⟩ := e3 n.toNat (by omega)
          refine goes_o (v := .pointer (some (ad.add (n.toNat * s.size)))) ?_ (Stp.refl _ _) h rfl ⟨ad.add (n.toNat * s.size), c', rfl, k1, by rw [add_block]; exact e2, fun j hj => ?_, k3⟩
          · simp [execOp, ho, hval, hyv, Instr.indexAt, run_underlying hu, asIntOf, c1, c2, hz]
          · rw [add_add]; exact k2 j hj
        · cases hp
      · rename_i g p hx
        rw [hx] at hx0
        split at hp
        · rename_i s' f xs hl
          split at hp
          · rename_i hf
            split at hp
            · rename_i ys hys
              obtain rfl := (Option.some.inj hp)
              obtain ⟨rfl, hxs⟩ := castTo_some hys
              simp only at hxs
              subst hxs
              refine ⟨?_, fun _ => rfl⟩
              simp only [decide_eq_true_eq] at hc
              obtain ⟨c1, c2⟩ := hc
              have c1 : @LE.le Int _ 0 n := c1
              have c2 : @LT.lt Int _ n xs.length := c2
              obtain ⟨s1, cs1, ad1, q1, q2, _⟩ := hx0
              have hl' := look_rt hrt hl
              obtain rfl := q1.shape hl'
              obtain ⟨_, _, B1, _, m4⟩ := h.place q1 hl'
              have hin : n.toNat < xs.length := by omega
              have aux : ∃ gg cap, cs1 = [.slice (some ⟨gg, 0, none⟩) xs.length cap] := by
                have aux' : ∀ f0 : Fl, OwnR w e s.size (fun x c B' => Rep w L.Z s f0 x c B') s.zero xs cs1 B1 → ∃ gg cap, cs1 = [.slice (some ⟨gg, 0, none⟩) xs.length cap] := by
                  intro f0 hR
                  rcases hR with ⟨A, _, hn⟩ | ⟨gg, cap, cur, rows, Bs, e1, _⟩
                  · subst hn; simp at hin
                  · exact ⟨gg, cap, e1⟩
                rcases wr_spec hf with rfl | rfl | ⟨n0, c0, rfl⟩
                · exact aux' _ m4
                · exact aux' _ m4
                · exact aux' _ m4.1
              obtain ⟨gg, cap, rfl⟩ := aux
              have hval : a.eval x = .slice (some ⟨gg, 0, none⟩) xs.length cap := by simpa [mkV] using q2.symm
              have hgt : ∃ f2, get (Sh.sl e s) f xs [.el n.toNat] = some ⟨s, f2, xs.getD n.toNat s.zero⟩ := by
                rcases wr_spec hf with rfl | rfl | ⟨n0, c0, rfl⟩
                · exact ⟨Fl.own.el, by show get s _ _ [] = _; rw [get_nil]⟩
                · exact ⟨Fl.ownf.el, by show get s _ _ [] = _; rw [get_nil]⟩
                · exact ⟨.own, by show get s _ _ [] = _; rw [get_nil]⟩
              obtain ⟨f2, hgt⟩ := hgt
              refine goes_o (v := .pointer (some ((⟨gg, 0, none⟩ : Addr).add (n.toNat * s.size)))) ?_ (Stp.refl _ _) h rfl ⟨s, rowCells w ((⟨gg, 0, none⟩ : Addr).add (n.toNat * s.size)) s.size, _, q1.app hl' (q := [.el n.toNat]) ⟨wr_spec hf, hin, by cases s <;> trivial⟩ hgt ?_, rfl⟩
              · simp [execOp, ho, hval, hyv, Instr.indexAt, run_underlying hu, asIntOf, c1, c2, hz]
              · show sub w s _ _ [] = _
                rw [sub_nil]
            · cases hp
          · cases hp
        · cases hp
      · obtain rfl := (Option.some.inj hp)
        cases hc
      · cases hp
    · cases hp
  · cases hp

theorem pop_index (hT : TabOk P T) (h : Rel L st a w Free) {t : Nat} {x y : Operand} (ho : o.op = .index t x y) (hp : pop T rt st o = some out) (hc : out.c = true) : Goes P o a w L out.st out.pv ∧ (out.cl = true → out.st = st) := by
  unfold pop at hp
  rw [ho] at hp
  simp only at hp
  have hx0 := h.opnd x
  have hy0 := h.opnd y
  split at hp
  · rename_i b nf fs cm hi0
    have hu := (hT t _ hi0).str' rfl rfl
    split at hp
    · rename_i xs k n hx hy
      obtain rfl := (Option.some.inj hp)
      rw [hx] at hx0
      rw [hy] at hy0
      have hxv := hx0.str
      have hyv := hy0.int
      refine ⟨?_, fun _ => rfl⟩
      simp only [decide_eq_true_eq] at hc
      obtain ⟨c1, c2⟩ := hc
      have c1 : @LE.le Int _ 0 n := c1
      have c2 : @LT.lt Int _ n xs.size := c2
      have hlt : n.toNat < xs.size := by omega
      refine goes_o (v := .int .u8 ((xs[n.toNat]'hlt).toNat : Int)) ?_ (Stp.refl _ _) h rfl (by rw [dif_pos hlt]; exact ORep.mkInt _ _)
      simp [execOp, ho, hxv, hyv, Instr.index, run_underlying hu, asIntOf, c1, hlt]
    · cases hp
  · cases hp

theorem pop_extract (h : Rel L st a w Free) (hrt : ∀ g k s f x, rt.at g = .root k s f x → st.at g = .root k s f x) {t n : Nat} (ho : o.op = .extract (.tmp t) n) (hp : pop T rt st o = some out) : out.c = true ∧ Goes P o a w L out.st out.pv ∧ (out.cl = true → out.st = st) := by
  unfold pop at hp
  rw [ho] at hp
  simp only at hp
  split at hp
  · rename_i aggs s f x hr
    split at hp
    · rename_i g s' f' x' hg hget
      obtain rfl := (Option.some.inj hp)
      refine ⟨rfl, ?_, fun _ => rfl⟩
      have hs := hrt _ _ _ _ _ hr
      obtain ⟨⟨r1, r2, r3⟩, B, b1, b2, b3⟩ := h.root hs
      obtain ⟨c1, k1, k2, k3, k4, k5⟩ := tup_at (w := w) n aggs hg hget r2 b3.len
      have hP : Place L st w t (fpath n aggs.length) s' c1 none := ⟨_, s, f, x, hs, k3, ⟨f', x', hget⟩, by rw [r3]; exact k1⟩
      have hl : look st t (fpath n aggs.length) = some ⟨s', f', x'⟩ := by unfold look; rw [hs]; exact hget
      obtain ⟨_, _, B1, _, m4⟩ := h.place hP hl
      have hm : mkV g c1 (aggV g c1) := by
        cases g with
        | true => rfl
        | false =>
          have h1 : c1.length = 1 := by
            rw [k5]
            rcases k4 rfl with q | q
            · cases s' <;> first | rfl | cases q
            · exact q.2
          obtain ⟨u, rfl⟩ := List.length_eq_one_iff.1 h1
          rfl
      have hrun : (execOp a.eval o).run P w = .ok (.value (aggV g c1)) w := by
        have : a.eval (.tmp t) = .tuple (tupV aggs s (L.C t)).toArray := r1
        simp [execOp, ho, Instr.extract, this, k2]
      unfold loaded
      by_cases hpl : (s'.plain || Fl.allfz s' f') = true
      · rw [if_pos hpl]
        refine goes_o hrun (Stp.refl _ _) h rfl ⟨c1, hm, ?_⟩
        simp only [Bool.or_eq_true] at hpl
        rcases hpl with hpl | hpl
        · exact m4.plain hpl
        · exact m4.allfz hpl
      · rw [if_neg hpl]
        simp only [Bool.or_eq_true, not_or, Bool.not_eq_true] at hpl
        exact goes_o hrun (Stp.refl _ _) h rfl ⟨s', c1, none, hP, hm, fun e => (k4 e).elim id (fun q => by rw [q.1] at hpl; exact absurd hpl.1 (by simp))⟩
    · cases hp
  · cases hp

theorem len_of (h : Rel L st a w R) (hrt : ∀ g k s f x, rt.at g = .root k s f x → st.at g = .root k s f x) {pv : PV} {v : Value} (hv : ORep L st w pv v) {n : Nat} (hn : lenOf rt pv = some n) : ∃ A c, v = .slice A n c := by
  unfold lenOf at hn
  split at hn
  · obtain rfl := Option.some.inj hn
    obtain ⟨A, hv⟩ := hv
    exact ⟨A, 0, hv⟩
  · rename_i e s x
    obtain rfl := Option.some.inj hn
    obtain ⟨cs, m1, m2⟩ := hv
    obtain ⟨A, c, rfl⟩ := m2.slen rfl
    exact ⟨A, c, by simpa [mkV] using m1.symm⟩
  · rename_i g p
    split at hn
    · rename_i e s f x hl
      split at hn
      · rename_i hf
        obtain rfl := Option.some.inj hn
        obtain ⟨s1, cs1, ad1, q1, q2, _⟩ := hv
        have hl' := look_rt hrt hl
        obtain rfl := q1.shape hl'
        obtain ⟨_, _, B1, _, m4⟩ := h.place q1 hl'
        obtain ⟨A, c, rfl⟩ := m4.slen hf
        exact ⟨A, c, by simpa [mkV] using q2.symm⟩
      · cases hn
    · cases hn
  · cases hn

theorem arr1 {α : Type} {a : Array α} {x : α} (h : a.toList = [x]) : a = #[x] := Array.ext' h
theorem arr2 {α : Type} {a : Array α} {x y : α} (h : a.toList = [x, y]) : a = #[x, y] := Array.ext' h

theorem pop_len (hT : TabOk P T) (h : Rel L st a w Free) (hrt : ∀ g k s f x, rt.at g = .root k s f x → st.at g = .root k s f x) {args : Array Operand} {ts : Array TypeId} (ho : o.op = .call ⟨.builtin .len, args, ts⟩) (hp : pop T rt st o = some out) : out.c = true ∧ Goes P o a w L out.st out.pv ∧ (out.cl = true → out.st = st) := by
  unfold pop at hp
  rw [ho] at hp
  simp only at hp
  split at hp
  · rename_i x t ha ht
    obtain rfl := arr1 ha
    obtain rfl := arr1 ht
    have hv := h.opnd x
    split at hp
    · rename_i e s b nf fs cm hi0
      obtain ⟨hu, _⟩ := (hT t _ hi0).sl e s rfl rfl
      split at hp
      · rename_i n hn
        obtain rfl := (Option.some.inj hp)
        obtain ⟨A, c, hval⟩ := len_of h hrt hv hn
        refine ⟨rfl, goes_o (v := .int .i64 n) ?_ (Stp.refl _ _) h rfl (ORep.mkInt _ _), fun _ => rfl⟩
        simp [execOp, ho, resolve, invoke, builtin, Builtin.len_, hval, run_underlying hu, goInt]
      · cases hp
    · rename_i b nf fs cm hi0
      have hu := (hT t _ hi0).str' rfl rfl
      split at hp
      · rename_i s hx
        obtain rfl := (Option.some.inj hp)
        rw [hx] at hv
        refine ⟨rfl, goes_o (v := .int .i64 s.size) ?_ (Stp.refl _ _) h rfl (ORep.mkInt _ _), fun _ => rfl⟩
        simp [execOp, ho, resolve, invoke, builtin, Builtin.len_, hv.str, run_underlying hu, goInt]
      · cases hp
    · cases hp
  · cases hp

theorem pop_min (h : Rel L st a w Free) {args : Array Operand} {ts : Array TypeId} (ho : o.op = .call ⟨.builtin .min, args, ts⟩) (hp : pop T rt st o = some out) : out.c = true ∧ Goes P o a w L out.st out.pv ∧ (out.cl = true → out.st = st) := by
  unfold pop at hp
  rw [ho] at hp
  simp only at hp
  split at hp
  · rename_i x y ha
    obtain rfl := arr2 ha
    have hx0 := h.opnd x
    have hy0 := h.opnd y
    split at hp
    · rename_i n m hx hy
      obtain rfl := (Option.some.inj hp)
      rw [hx] at hx0
      rw [hy] at hy0
      refine ⟨rfl, goes_o (v := .int .i64 (if m < n then m else n)) ?_ (Stp.refl _ _) h rfl (ORep.mkInt _ _), fun _ => rfl⟩
      simp [execOp, ho, resolve, invoke, builtin, Builtin.min_, Builtin.min2, hx0.int, hy0.int]
    · cases hp
  · cases hp

theorem pop_max (h : Rel L st a w Free) {args : Array Operand} {ts : Array TypeId} (ho : o.op = .call ⟨.builtin .max, args, ts⟩) (hp : pop T rt st o = some out) : out.c = true ∧ Goes P o a w L out.st out.pv ∧ (out.cl = true → out.st = st) := by
  unfold pop at hp
  rw [ho] at hp
  simp only at hp
  split at hp
  · rename_i x y ha
    obtain rfl := arr2 ha
    have hx0 := h.opnd x
    have hy0 := h.opnd y
    split at hp
    · rename_i n m hx hy
      obtain rfl := (Option.some.inj hp)
      rw [hx] at hx0
      rw [hy] at hy0
      refine ⟨rfl, goes_o (v := .int .i64 (if m > n then m else n)) ?_ (Stp.refl _ _) h rfl (ORep.mkInt _ _), fun _ => rfl⟩
      simp [execOp, ho, resolve, invoke, builtin, Builtin.max_, Builtin.max2, hx0.int, hy0.int]
    · cases hp
  · cases hp
end
end Go.Proofs.Yteeklekfafedcaa.V

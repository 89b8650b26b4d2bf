/- The operations, one by one: second part. No condition. -/
import Derived.Test.YteeklekfafedcaaV7
import Derived.Laws.StructEq
set_option linter.unusedVariables false
namespace Go.Proofs.Yteeklekfafedcaa.V
open Go Go.RowKit

theorem upd_shape {s1 : Sh} {f2 : Fl} {x2 : s1.ty} : ∀ (p : Path) {s : Sh} {f : Fl} {x : s.ty} {r : Fl × s.ty}, upd s1 f2 x2 s f x p = some r → ∀ {s3 : Sh} {f3 : Fl} {x3 : s3.ty}, get s f x p = some ⟨s3, f3, x3⟩ → s1 = s3 := by
  intro p
  induction p with
  | nil =>
    intro s f x r h s3 f3 x3 hg
    rw [get_nil] at hg
    have e : s = s3 := congrArg Sigma.fst (Option.some.inj hg)
    have : upd s1 f2 x2 s f x [] = if h : s1 = s then some (f2, h ▸ x2) else none := by cases s <;> rfl
    rw [this] at h
    split at h
    · rename_i e2; exact e2.trans e
    · cases h
  | cons st p ih =>
    intro s f x r h s3 f3 x3 hg
    cases s with
    | pr a b =>
      cases st with
      | l =>
        simp only [upd] at h
        split at h
        · rename_i g y hq; exact ih hq hg
        · cases h
      | r =>
        simp only [upd] at h
        split at h
        · rename_i g y hq; exact ih hq hg
        · cases h
      | el i => simp [upd] at h
    | sl e s0 =>
      cases st with
      | el i =>
        cases f <;> simp only [upd] at h
        · cases h
        · split at h
          · rename_i g y hq; exact ih hq hg
          · cases h
        · split at h
          · rename_i g y hq; exact ih hq hg
          · cases h
        · cases h
        · cases h
        · split at h
          · rename_i g y hq; exact ih hq hg
          · cases h
        · cases h
      | l => simp [upd] at h
      | r => simp [upd] at h
    | unit => simp [upd] at h
    | int _ => simp [upd] at h
    | bool => simp [upd] at h
    | str => simp [upd] at h

section
variable {P : Program} {o : Oper} {L L1 : Lay} {st st1 : St} {a : Act} {w w' : World} {R : Nat → Prop} {T : List (Nat × TI)} {rt : St} {out : Out}

theorem pop_store (hT : TabOk P T) (h : Rel L st a w Free) {t : Nat} {x y : Operand} (ho : o.op = .store t x y) (hp : pop T rt st o = some out) : out.c = true ∧ Goes P o a w L out.st out.pv ∧ (out.cl = true → out.st = st) := by
  unfold pop at hp
  rw [ho] at hp
  simp only at hp
  split at hp
  · rename_i i hi
    have hTt := hT t i hi
    split at hp
    · rename_i f z st' hg
      obtain ⟨L', B1, cs, g1, g2, g3, g4, g5, g6, g7⟩ := h.grab (h.opnd y) hg
      split at hp
      · rename_i g p hx
        split at hp
        · rename_i st2 hu
          obtain rfl := (Option.some.inj hp)
          refine ⟨rfl, ?_, fun e => by cases e⟩
          have hv := g2.opnd x
          rw [hx] at hv
          obtain ⟨s1, cs1, A, q1, q2⟩ := hv
          obtain ⟨k0, s0, f0, x0, e1, e2, e3, e4⟩ := q1
          have q1 : Place L' st' w g p s1 cs1 (some A) := ⟨k0, s0, f0, x0, e1, e2, e3, e4⟩
          obtain ⟨f1, x1, u1, Bp, u2, u3, u4, u5, u6⟩ := g2.put e1 q1
          unfold V.put at hu
          rw [e1] at hu
          simp only at hu
          split at hu
          · rename_i f3 x3 hu'
            obtain rfl := Option.some.inj hu
            obtain rfl := upd_shape p hu' u1
            obtain ⟨cur, et, hc⟩ := g2.placeFr q1
            obtain ⟨w', r1, r2, r3, r4, r5, r6, r7⟩ := run_storeVarAt (P := P) hTt u4 u3.len g5.len g4 hc g5.one
            have hA := u5 A rfl
            have hoth : ∀ b, b ≠ A.block → w'.heap[b]? = w.heap[b]? := r2.other
            have hR2 : Rep w' L'.Z i.sh f z cs B1 := by
              rw [g1.Z]
              refine g5.frame (fun _ h => h) (fun b hb => hoth b (fun e => ?_))
              subst e
              rcases hb with hb | hb
              · exact (g2.flt g _ hA.1).2 (g1.Z ▸ hb)
              · exact g2.rdj g _ hA.1 (.inr hb)
            have hrel := u6 w' cs f z B1 Free f3 x3 hit (.inr ⟨A, rfl, r3, by rw [g5.len, u3.len], r2⟩) r4 hR2 (fun b hb => .inl (.inr hb)) (fun b hb => hb.elim) hu' (.inl rfl)
            refine ⟨undef, w', .inr ⟨?_, rfl⟩, fun dst hd => ⟨⟨L'.Z, fun t b => if t = g then (L'.F g b ∧ ¬ Bp b) ∨ B1 b else L'.F t b, fun t => if t = g then csub s0 (L'.C g) p cs else L'.C t, L'.D⟩, ?_, ?_⟩⟩
            · simp [execOp, ho, Instr.storeAt, Instr.sureAddr, q2, r1]
            · refine ⟨r5, r6, r7, by omega, fun b hb hn => hoth b (fun e => ?_), g1.Z, fun t b hb => .inl ?_⟩
              · subst e
                obtain ⟨t', ht'⟩ := g1.F g _ hA.1
                exact hn t' ht'
              · simp only at hb
                split at hb
                · rcases hb with hb | hb
                  · exact g1.F g b hb.1
                  · exact (g3 b hb).2
                · exact g1.F t b hb
            · cases dst with
              | none => exact hrel
              | some d => exact hrel.setO (hd d rfl) rfl trivial
          · cases hu
        · cases hp
      · cases hp
    · cases hp
  · cases hp

theorem pop_nilCheck (h : Rel L st a w Free) {x : Operand} (ho : o.op = .nilCheck x) (hp : pop T rt st o = some out) : out.c = true ∧ Goes P o a w L out.st out.pv ∧ (out.cl = true → out.st = st) := by
  unfold pop at hp
  rw [ho] at hp
  simp only at hp
  have hv := h.opnd x
  split at hp
  · rename_i g p hx
    obtain rfl := (Option.some.inj hp)
    rw [hx] at hv
    refine ⟨rfl, goes_o (v := a.eval x) ?_ (Stp.refl _ _) h rfl hv, fun _ => rfl⟩
    obtain ⟨s1, cs1, A, q1, q2⟩ := hv
    simp [execOp, ho, q2]
  · rename_i s y hx
    obtain rfl := (Option.some.inj hp)
    rw [hx] at hv
    refine ⟨rfl, goes_o (v := a.eval x) ?_ (Stp.refl _ _) h rfl hv, fun _ => rfl⟩
    obtain ⟨ad, cs, q1, _⟩ := hv
    simp [execOp, ho, q1]
  · cases hp

theorem pop_unOp (h : Rel L st a w Free) {op : UnOp} {t : Nat} {x : Operand} (ho : o.op = .unOp op t x) (hp : pop T rt st o = some out) : out.c = true ∧ Goes P o a w L out.st out.pv ∧ (out.cl = true → out.st = st) := by
  unfold pop at hp
  rw [ho] at hp
  simp only at hp
  have hv := h.opnd x
  split at hp
  · rename_i pv hu
    obtain rfl := (Option.some.inj hp)
    refine ⟨rfl, ?_, fun _ => rfl⟩
    unfold unop at hu
    split at hu
    · rename_i b hx
      obtain rfl := Option.some.inj hu
      rw [hx] at hv
      exact goes_o (v := .bool (!b)) (by simp [execOp, ho, hv.bool, Op.unary]) (Stp.refl _ _) h rfl (ORep.mkBool _)
    · rename_i k n hx
      obtain rfl := Option.some.inj hu
      rw [hx] at hv
      exact goes_o (v := .int k (k.wrap (0 - n))) (by simp [execOp, ho, hv.int, Op.unary, Op.intArith]) (Stp.refl _ _) h rfl (ORep.mkInt _ _)
    · cases hu
  · cases hp

theorem pop_convert (hT : TabOk P T) (hsrc : ∀ t i, tget T t = some i → (P.underlying t).isSome = true) (h : Rel L st a w Free) {s d : Nat} {x : Operand} (ho : o.op = .convert s d x) (hp : pop T rt st o = some out) : out.c = true ∧ Goes P o a w L out.st out.pv ∧ (out.cl = true → out.st = st) := by
  unfold pop at hp
  rw [ho] at hp
  simp only at hp
  have hv := h.opnd x
  split at hp
  · rename_i k b n fs c hi
    split at hp
    · rename_i k' m hx
      split at hp
      · rename_i j hj
        obtain rfl := (Option.some.inj hp)
        rw [hx] at hv
        have hd := (hT d _ hi).int k rfl rfl
        obtain ⟨u, hu⟩ := Option.isSome_iff_exists.1 (hT s _ hj).isS
        refine ⟨rfl, goes_o (v := .int k (k.wrap m)) ?_ (Stp.refl _ _) h rfl (ORep.mkInt _ _), fun _ => rfl⟩
        simp [execOp, ho, hv.int, convert, run_underlying hu, run_underlying hd, Conv.intToInt]
      · cases hp
    · cases hp
  · cases hp

theorem intop_run {op : BinOp} {k : IntKind} {x y : Int} {c : Bool} {pv : PV} (h : intop op k x y = some (c, pv)) (hc : c = true) (t : Nat) (W : World) : ∃ v, (binOp op t (.int k x) (.int k y)).run P W = .ok v W ∧ ORep L st w pv v ∧ pv.isRoot = false := by
  cases op <;> simp only [intop, Option.some.injEq, Prod.mk.injEq] at h <;> first | (obtain ⟨h1, rfl⟩ := h) | cases h
  case add => refine ⟨_, ?_, ORep.mkInt _ _, rfl⟩; simp [binOp, Op.intArith]
  case sub => refine ⟨_, ?_, ORep.mkInt _ _, rfl⟩; simp [binOp, Op.intArith]
  case mul => refine ⟨_, ?_, ORep.mkInt _ _, rfl⟩; simp [binOp, Op.intArith]
  case and => refine ⟨_, ?_, ORep.mkInt _ _, rfl⟩; simp only [binOp, Op.intBits, ne_eq, not_true_eq_false, if_false]; rfl
  case or => refine ⟨_, ?_, ORep.mkInt _ _, rfl⟩; simp only [binOp, Op.intBits, ne_eq, not_true_eq_false, if_false]; rfl
  case xor => refine ⟨_, ?_, ORep.mkInt _ _, rfl⟩; simp only [binOp, Op.intBits, ne_eq, not_true_eq_false, if_false]; rfl
  case andNot => refine ⟨_, ?_, ORep.mkInt _ _, rfl⟩; simp only [binOp, Op.intBits, ne_eq, not_true_eq_false, if_false]; rfl
  case eql => refine ⟨_, ?_, ORep.mkBool _, rfl⟩; simp [binOp, Op.intCmp]
  case neq => refine ⟨_, ?_, ORep.mkBool _, rfl⟩; simp [binOp, Op.intCmp, bne]
  case lss => refine ⟨_, ?_, ORep.mkBool _, rfl⟩; simp [binOp, Op.intCmp]
  case leq => refine ⟨_, ?_, ORep.mkBool _, rfl⟩; simp [binOp, Op.intCmp]
  case gtr => refine ⟨_, ?_, ORep.mkBool _, rfl⟩; simp [binOp, Op.intCmp]
  case geq => refine ⟨_, ?_, ORep.mkBool _, rfl⟩; simp [binOp, Op.intCmp]
  case quo =>
    subst h1
    have hy : y ≠ 0 := by simpa using hc
    refine ⟨_, ?_, ORep.mkInt _ _, rfl⟩
    simp [binOp, Op.intDiv, hy]
  case rem =>
    subst h1
    have hy : y ≠ 0 := by simpa using hc
    refine ⟨_, ?_, ORep.mkInt _ _, rfl⟩
    simp [binOp, Op.intDiv, hy]

theorem eq_flat {Z : Nat → Prop} (w : World) (d : Nat) : ∀ (fs : List Field) (s : Sh) (o : Nat), Flat P fs s o → ∀ (c1 c2 : List Value) (x y : s.ty), Rep w Z s .fz x c1 (fun _ => False) → Rep w Z s .fz y c2 (fun _ => False) → ∀ (xs ys : List Value), xs.drop o = c1 → ys.drop o = c2 →
    (Op.eqFields (d + 1) xs.toArray ys.toArray fs).run P w = .ok (eqv s x y) w := by
  have leaf : ∀ (f : Field) (s : Sh) (o : Nat), (f.offset = o ∧ f.name ≠ "_" ∧ isAggT P f.type = false ∧ ((∃ k, s = .int k ∧ P.underlying f.type = some (.int k)) ∨ (s = .bool ∧ P.underlying f.type = some .bool) ∨ (s = .str ∧ P.underlying f.type = some .string))) → ∀ (c1 c2 : List Value) (x y : s.ty), Rep w Z s .fz x c1 (fun _ => False) → Rep w Z s .fz y c2 (fun _ => False) → ∀ (xs ys : List Value) (r1 r2 : List Value), xs.drop o = c1 ++ r1 → ys.drop o = c2 ++ r2 →
      f.name ≠ "_" ∧ s.size = 1 ∧ ∃ u v, (part f.type xs.toArray f.offset).run P w = .ok u w ∧ (part f.type ys.toArray f.offset).run P w = .ok v w ∧ (Op.equalIn (d + 1) f.type u v).run P w = .ok (eqv s x y) w := by
    intro f s o ⟨h1, h2, h3, h4⟩ c1 c2 x y hx hy xs ys r1 r2 e1 e2
    have hpart : ∀ (zs : List Value) (u : Value) (r : List Value), zs.drop o = u :: r → (P.underlying f.type).isSome = true → (part f.type zs.toArray f.offset).run P w = .ok u w := by
      intro zs u r e hs
      have hg : zs[o]? = some u := by
        have : (zs.drop o)[0]? = some u := by rw [e]; rfl
        rw [List.getElem?_drop] at this; simpa using this
      unfold part
      simp only [Sem.run_bind, run_isAgg hs, Result.andThen_ok, h3]
      simp [h1, hg]
    rcases h4 with ⟨k, rfl, hu⟩ | ⟨rfl, hu⟩ | ⟨rfl, hu⟩
    · simp only [Rep] at hx hy
      subst hx; subst hy
      refine ⟨h2, rfl, _, _, hpart xs _ r1 e1 (by rw [hu]; rfl), hpart ys _ r2 e2 (by rw [hu]; rfl), ?_⟩
      simp [Op.equalIn, run_underlying hu, eqv]
      rfl
    · simp only [Rep] at hx hy
      subst hx; subst hy
      refine ⟨h2, rfl, _, _, hpart xs _ r1 e1 (by rw [hu]; rfl), hpart ys _ r2 e2 (by rw [hu]; rfl), ?_⟩
      simp [Op.equalIn, run_underlying hu, eqv]
    · simp only [Rep] at hx hy
      subst hx; subst hy
      refine ⟨h2, rfl, _, _, hpart xs _ r1 e1 (by rw [hu]; rfl), hpart ys _ r2 e2 (by rw [hu]; rfl), ?_⟩
      simp [Op.equalIn, run_underlying hu, eqv]
  intro fs
  induction fs with
  | nil => intro s o h; cases s <;> exact h.elim
  | cons f fs ih =>
    intro s o h c1 c2 x y hx hy xs ys e1 e2
    cases fs with
    | nil =>
      have h' : (f.offset = o ∧ f.name ≠ "_" ∧ isAggT P f.type = false ∧ ((∃ k, s = .int k ∧ P.underlying f.type = some (.int k)) ∨ (s = .bool ∧ P.underlying f.type = some .bool) ∨ (s = .str ∧ P.underlying f.type = some .string))) := by cases s <;> exact h
      obtain ⟨q1, _, u, v, q2, q3, q4⟩ := leaf f s o h' c1 c2 x y hx hy xs ys [] [] (by simpa using e1) (by simpa using e2)
      simp only [Op.eqFields, if_pos q1, Sem.run_bind, q2, q3, q4, Result.andThen_ok]
      cases eqv s x y <;> simp
    | cons g r =>
      cases s with
      | pr s b =>
        obtain ⟨h1, h2⟩ := h
        obtain ⟨u1, u2, B1, B2, rfl, m1, m2, _, k1, k2⟩ := hx
        obtain ⟨v1, v2, B3, B4, rfl, m3, m4, _, k3, k4⟩ := hy
        obtain ⟨q1, qs, u, v, q2, q3, q4⟩ := leaf f s o h1 u1 v1 x.1 y.1 (k1.mono m1) (k3.mono m3) xs ys u2 v2 e1 e2
        have hl1 := k1.len
        have hl2 := k3.len
        have e3 : xs.drop (o + 1) = u2 := by rw [← List.drop_drop, e1]; rw [List.drop_left' (by omega)]
        have e4 : ys.drop (o + 1) = v2 := by rw [← List.drop_drop, e2]; rw [List.drop_left' (by omega)]
        have hih := ih b (o + 1) h2 u2 v2 x.2 y.2 (k2.mono m2) (k4.mono m4) xs ys e3 e4
        rw [Op.eqFields]
        simp only [if_pos q1, Sem.run_bind, q2, q3, q4, Result.andThen_ok]
        simp only [eqv]
        cases eqv s x.1 y.1
        · simp
        · simpa using hih
      | unit => exact h.elim
      | int _ => exact h.elim
      | bool => exact h.elim
      | str => exact h.elim
      | sl _ _ => exact h.elim

theorem pop_binOp (hT : TabOk P T) (h : Rel L st a w Free) {op : BinOp} {t t2 : Nat} {x y : Operand} (ho : o.op = .binOp op t x y t2) (hp : pop T rt st o = some out) (hc : out.c = true) : Goes P o a w L out.st out.pv ∧ (out.cl = true → out.st = st) := by
  unfold pop at hp
  rw [ho] at hp
  simp only at hp
  have hx := h.opnd x
  have hy := h.opnd y
  split at hp
  · rename_i c pv hb
    obtain rfl := (Option.some.inj hp)
    refine ⟨?_, fun _ => rfl⟩
    simp only at hc
    subst hc
    unfold binop at hb
    split at hb
    · rename_i k n k' m e1 e2
      rw [e1] at hx
      rw [e2] at hy
      have vx := hx.int
      have vy := hy.int
      have hg : ∀ W : World, (eqGuard op t x y (.int k n) (.int k' m)).run P W = .ok () W := by
        intro W
        unfold eqGuard
        cases op <;> simp
      split at hb
      · obtain ⟨h1, rfl⟩ := Prod.mk.inj (Option.some.inj hb)
        have h0 : 0 ≤ m := by simpa using h1
        refine goes_o (v := .int k (k.wrap (n * 2 ^ (min m.toNat k.bits)))) ?_ (Stp.refl _ _) h rfl (ORep.mkInt _ _)
        simp [execOp, ho, vx, vy, hg, binOp, Op.shift, show ¬ m < 0 from Int.not_lt.mpr h0]
      · obtain ⟨h1, rfl⟩ := Prod.mk.inj (Option.some.inj hb)
        have h0 : 0 ≤ m := by simpa using h1
        refine goes_o (v := .int k (n.fdiv (2 ^ (min m.toNat k.bits)))) ?_ (Stp.refl _ _) h rfl (ORep.mkInt _ _)
        simp [execOp, ho, vx, vy, hg, binOp, Op.shift, show ¬ m < 0 from Int.not_lt.mpr h0]
      · rename_i hn1 hn2
        split at hb
        · rename_i hk
          subst hk
          obtain ⟨v, r1, r2, r3⟩ := intop_run (P := P) (L := L) (st := st) (w := w) hb rfl t w
          refine goes_o (v := v) ?_ (Stp.refl _ _) h r3 r2
          simp [execOp, ho, vx, vy, hg, r1]
        · cases hb
    · rename_i s1 s2 e1 e2
      rw [e1] at hx
      rw [e2] at hy
      have vx := hx.str
      have vy := hy.str
      have hg : ∀ W : World, (eqGuard op t x y (.string s1) (.string s2)).run P W = .ok () W := by
        intro W
        unfold eqGuard
        cases op <;> simp
      split at hb
      · obtain ⟨_, rfl⟩ := Prod.mk.inj (Option.some.inj hb)
        refine goes_o (v := .bool (s1.toList == s2.toList)) ?_ (Stp.refl _ _) h rfl (ORep.mkBool _)
        simp [execOp, ho, vx, vy, hg, binOp, Op.stringOp]
      · obtain ⟨_, rfl⟩ := Prod.mk.inj (Option.some.inj hb)
        refine goes_o (v := .bool (!(s1.toList == s2.toList))) ?_ (Stp.refl _ _) h rfl (ORep.mkBool _)
        simp [execOp, ho, vx, vy, hg, binOp, Op.stringOp]
      · obtain ⟨h1, rfl⟩ := Prod.mk.inj (Option.some.inj hb)
        have h0 : s1.size + s2.size ≤ 9223372036854775807 := by simpa using h1
        refine goes_o (v := .string (s1 ++ s2)) ?_ (Stp.refl _ _) h rfl (ORep.mkStr _)
        have h2 : ¬ (((s1.size + s2.size : Nat) : Int) > 9223372036854775807) := by omega
        simp only [execOp, ho, vx, vy, Sem.run_bind, hg, Result.andThen_ok, binOp, Op.stringOp, IntKind.max_i64, if_neg h2]
        rfl
      · cases hb
    · cases hb
  · split at hp
    · rename_i i hi
      have hTt := hT t i hi
      split at hp
      · rename_i hcmp
        split at hp
        · rename_i pv hb
          obtain rfl := (Option.some.inj hp)
          refine ⟨?_, fun _ => rfl⟩
          unfold eqop at hb
          split at hb
          · rename_i a1 s1 u a2 s2 v e1 e2
            rw [e1] at hx
            rw [e2] at hy
            split at hb
            · rename_i hag
              obtain ⟨rfl, rfl⟩ := hag
              split at hb
              · rename_i u' v' hc1 hc2
                obtain ⟨rfl, hu⟩ := castTo_some hc1
                simp only at hu
                subst hu
                obtain ⟨hs2, hv⟩ := castTo_some hc2
                subst hs2
                simp only at hv
                subst hv
                -- the machine's comparison
                have key : (Op.equal t (a.eval x) (a.eval y)).run P w = .ok (eqv i.sh u v) w ∧ (eqGuard op t x y (a.eval x) (a.eval y)).run P w = .ok () w ∧ ((∃ c d, a.eval x = .agg c ∧ a.eval y = .agg d) ∨ ∃ b c, a.eval x = .bool b ∧ a.eval y = .bool c) := by
                  obtain ⟨cs1, m1, m2⟩ := hx
                  obtain ⟨cs2, m3, m4⟩ := hy
                  simp only [Bool.or_eq_true, Bool.and_eq_true, Bool.not_eq_true', beq_iff_eq] at hcmp
                  rcases hcmp with ⟨hag, hcm⟩ | ⟨hag, hb⟩
                  · obtain ⟨fs, f1, f2, f3, f4⟩ := hTt.cmp hcm hag
                    rw [hag] at m1 m3
                    simp only [mkV, if_true] at m1 m3
                    rw [m1, m3]
                    have hf : P.fieldsOf t = fs := by simp [Program.fieldsOf, f1]
                    refine ⟨?_, ?_, .inl ⟨_, _, rfl, rfl⟩⟩
                    · unfold Op.equal
                      rw [show Op.maxDepth = 9999 + 1 from rfl, run_equalIn_struct (P := P) w 9999 t _ _ (by rw [hf]; exact f1) f3, hf]
                      exact eq_flat (P := P) w 9998 fs.toList i.sh 0 f2 cs1 cs2 u v m2 m4 cs1 cs2 (by simp) (by simp)
                    · unfold eqGuard
                      cases op <;> simp [f4]
                  · rw [hag] at m1 m3
                    simp only [mkV, Bool.false_eq_true, if_false] at m1 m3
                    have hu' := hTt.bool hb hag
                    clear hTt hi
                    obtain ⟨sh, agg, by_, nf, fs, cm⟩ := i
                    simp only at hb hag
                    subst hb
                    subst hag
                    simp only [Rep] at m2 m4
                    rw [m2] at m1
                    rw [m4] at m3
                    have v1 : a.eval x = .bool u := by simpa using m1.symm
                    have v2 : a.eval y = .bool v := by simpa using m3.symm
                    rw [v1, v2]
                    refine ⟨?_, ?_, ?_⟩
                    · exact run_equalIn_bool w 9999 t u v hu'
                    · unfold eqGuard
                      cases op <;> simp
                    · exact .inr ⟨u, v, rfl, rfl⟩
                obtain ⟨k1, k2, k3⟩ := key
                split at hb
                · obtain rfl := Option.some.inj hb
                  refine goes_o (v := .bool (eqv i.sh u v)) ?_ (Stp.refl _ _) h rfl (ORep.mkBool _)
                  simp only [execOp, ho, Sem.run_bind, k2, Result.andThen_ok]
                  rcases k3 with ⟨c1, c2, e3, e4⟩ | ⟨c1, c2, e3, e4⟩
                  · rw [e3, e4] at k1 ⊢
                    simp [binOp, k1]
                  · rw [e3, e4] at k1 ⊢
                    simp [binOp, k1]
                · obtain rfl := Option.some.inj hb
                  refine goes_o (v := .bool (!(eqv i.sh u v))) ?_ (Stp.refl _ _) h rfl (ORep.mkBool _)
                  simp only [execOp, ho, Sem.run_bind, k2, Result.andThen_ok]
                  rcases k3 with ⟨c1, c2, e3, e4⟩ | ⟨c1, c2, e3, e4⟩
                  · rw [e3, e4] at k1 ⊢
                    simp [binOp, k1]
                  · rw [e3, e4] at k1 ⊢
                    simp [binOp, k1]
                · cases hb
              · cases hb
            · cases hb
          · cases hb
        · cases hp
      · cases hp
    · cases hp
end
end Go.Proofs.Yteeklekfafedcaa.V

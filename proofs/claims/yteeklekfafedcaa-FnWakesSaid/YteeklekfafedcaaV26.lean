/- The rule of regions in any order with a tail. No condition. -/
import Derived.Test.YteeklekfafedcaaV25
set_option linter.unusedVariables false
namespace Go.Proofs.Yteeklekfafedcaa.V
open Go Go.RowKit

section
variable {P : Program} {T : List (Nat × TI)} {ops : Array Oper} {f n : Nat}

theorem pureOp_ok {L : Lay} {st : St} {a : Act} {w : World} (h : Rel L st a w Free) {o : Oper} {pv : PV} (hp : pureOp st o = some pv) : ∃ v, Yields P ops o v a ∧ ORep L st w pv v ∧ pv.isRoot = false := by
  unfold pureOp at hp
  split at hp
  · cases hp
  · rename_i hg
    have hw : Region.wanted o (yielded ops a.tmps) = true := by unfold Region.wanted; rw [hg]
    split at hp
    · rename_i x ho
      have hv := h.opnd x
      have hr := ref_root st x
      have fin : some (ref st x) = some pv → ∃ v, Yields P ops o v a ∧ ORep L st w pv v ∧ pv.isRoot = false := by
        intro e
        obtain rfl := Option.some.inj e
        exact ⟨a.eval x, .inl ⟨hw, fun w => by simp [execOp, ho]⟩, hv, hr⟩
      split at hp
      · cases hp
      · exact fin hp
    · rename_i t x y t2 ho
      have hx := h.opnd x
      have hy := h.opnd y
      split at hp
      · rename_i k n k' m e1 e2
        rw [e1] at hx
        rw [e2] at hy
        have vx := hx.int
        have vy := hy.int
        split at hp
        · rename_i hk
          subst hk
          obtain rfl := Option.some.inj hp
          refine ⟨_, .inl ⟨hw, fun W => ?_⟩, ORep.mkInt _ _, rfl⟩
          have hg : (eqGuard .sub t x y (.int k n) (.int k m)).run P W = .ok () W := by unfold eqGuard; simp
          simp [execOp, ho, vx, vy, hg, binOp, Op.intArith]
        · cases hp
      · cases hp
    · rename_i t x y t2 ho
      have hx := h.opnd x
      have hy := h.opnd y
      split at hp
      · rename_i k n k' m e1 e2
        rw [e1] at hx
        rw [e2] at hy
        have vx := hx.int
        have vy := hy.int
        split at hp
        · rename_i hk
          subst hk
          obtain rfl := Option.some.inj hp
          refine ⟨_, .inl ⟨hw, fun W => ?_⟩, ORep.mkInt _ _, rfl⟩
          have hg : (eqGuard .add t x y (.int k n) (.int k m)).run P W = .ok () W := by unfold eqGuard; simp
          simp [execOp, ho, vx, vy, hg, binOp, Op.intArith]
        · cases hp
      · cases hp
    · cases hp

theorem floats_ok (hD : mixOk ops f n = true) {Q : Exit → Act → World → Prop} (hQ : ∀ c a w, ¬ Q (.panic c) a w) {L : Lay} {w : World} {K : St → Prop} {fuel : Nat}
    (hfin : ∀ (listed : Array Bool) (st : St) (a : Act), listed.size = ops.size → (∀ j, j < ops.size → listed.getD j false = decide (j < f)) → (∀ (i : Nat) (o : Oper), ops[i]? = some o → listed.getD i false = true → ∀ e ∈ o.after.toList, Region.binds .any e = true → listed.getD e.on false = true) → vmix P T ops f n f (ops.toList.drop f) st K → Rel L st a w Free → wpAny P .any ops Q fuel listed a w) :
    ∀ (d k : Nat), k + d = f → ∀ (listed : Array Bool) (st : St) (a : Act), listed.size = ops.size → (∀ j, j < ops.size → listed.getD j false = decide (j < k)) → (∀ (i : Nat) (o : Oper), ops[i]? = some o → listed.getD i false = true → ∀ e ∈ o.after.toList, Region.binds .any e = true → listed.getD e.on false = true) → floatOk ops d k listed = true → vmix P T ops f n k (ops.toList.drop k) st K → Rel L st a w Free → wpAny P .any ops Q (fuel + d) listed a w := by
  obtain ⟨hsel, hfn, hns, _, hsp⟩ := mixOk_spec hD
  intro d
  induction d with
  | zero =>
    intro k hk listed st a hs hl hcl _ hv hr
    obtain rfl : k = f := by omega
    exact hfin listed st a hs hl hcl hv hr
  | succ d ih =>
    intro k hk listed st a hs hl hcl hF hv hr
    have hklt : k < ops.size := by omega
    have ho : ops[k]? = some ops[k] := Array.getElem?_eq_getElem hklt
    have hdrop : ops.toList.drop k = ops[k] :: ops.toList.drop (k + 1) := by
      rw [List.drop_eq_getElem_cons (by simpa using hklt)]
      simp
    rw [hdrop] at hv
    unfold vmix at hv
    rw [vs_a (by omega)] at hv
    unfold vfloat at hv
    split at hv
    · rename_i pv hp
      obtain ⟨hnr, hv⟩ := hv
      simp only [floatOk, Bool.and_eq_true] at hF
      obtain ⟨⟨h1, h2⟩, h3⟩ := hF
      obtain ⟨v, y1, y2, y3⟩ := pureOp_ok (P := P) (ops := ops) hr hp
      have hr' : Rel L (setD st ops[k].dst pv) (a.put ops[k].dst v) w Free := by
        cases hd : ops[k].dst with
        | none => exact hr
        | some d => exact hr.setO (nonroot_spec hnr d hd) y3 y2
      refine wpAny_take ho hsel h2 h1 (fun c a w hq => absurd hq (hQ _ _ _)) y1 (ih (k + 1) (by omega) _ _ _ (by simp [hs]) (fun j hj => ?_) (fun i o hi hl' e he hb => ?_) h3 hv hr')
      · rw [getD_setB (by omega), hl j hj]
        by_cases e : j = k
        · subst e; simp
        · rw [if_neg e]
          congr 1
          simp; omega
      · rw [getD_setB (by omega)] at hl' ⊢
        by_cases e1 : i = k
        · subst e1
          obtain ⟨o', q1, _, q2⟩ := (ready_iff hs).1 (show i ∈ Region.ready .any ops listed by simpa using h1)
          rw [hi] at q1
          obtain rfl := Option.some.inj q1
          rw [q2 e he hb]; simp
        · rw [if_neg e1] at hl'
          rw [hcl i o hi hl' e he hb]; simp
    · exact hv.elim

theorem VW.mix (hT : TabOk P T) (hm : P.follows .mixedOrders = true) (f n : Nat) (hD : mixOk ops f n = true) {id : Nat} {st : St} {Q : Exit → St → Prop} (h : vmix P T ops f n 0 ops.toList st (Q .normal)) : VW P (.region id ops true) st Q := by
  intro L a w hr
  obtain ⟨hsel, hfn, hns, hfl, hsp⟩ := mixOk_spec hD
  refine wp_mono (Q := fun e a' w' => match e with | .normal => ∃ L' st', Stp L L' w w' ∧ Rel L' st' a' w' Free ∧ Q .normal st' | _ => False) ?_ (fun e a' w' hq => ?_)
  · refine wp_region_any hm ?_
    have hx : Ext w { w with drawn := w.drawn + 1 } := Ext.drew w
    have hr1 := hr.grow hx
    have h0 : ∀ j, (Array.replicate ops.size false).getD j false = false := fun j => by
      rcases Nat.lt_or_ge j ops.size with hj | hj <;> simp [Array.getD, hj]
    have key := floats_ok (P := P) (T := T) hD (Q := fun e a' w' => match e with | .normal => ∃ L' st', Stp L L' w w' ∧ Rel L' st' a' w' Free ∧ Q .normal st' | _ => False) (fun _ _ _ h => h) (L := L) (w := { w with drawn := w.drawn + 1 }) (K := Q .normal) (fuel := ops.size - f) (fun listed st1 a1 hs hl hcl hv hr2 => ?_) f 0 (by omega) (Array.replicate ops.size false) st a (by simp) (fun j hj => by rw [h0]; simp) (fun i o _ hl => by rw [h0] at hl; cases hl) hfl (by simpa using h) hr1
    · rw [show ops.size - f + f = ops.size by omega] at key
      exact key
    · obtain ⟨F, htr, hF⟩ := vmix_tr hT hD (ops.toList.drop f) f rfl (Nat.le_refl _) hfn hv
      refine anyB_ok hT hD htr hF (L0 := L) (w0 := w) (fun L' st' a' w' s r k => ⟨L', st', s, r, k⟩) _ listed L st1 a1 _ ⟨hs, hcl, fun i hi => ?_, fun i hi => ?_, rfl, fun _ _ => rfl, fun j o t hj ho hlj hd => ?_⟩ ?_ hr2 (Stp.ext hx)
      · rw [hl i (by omega)]; simpa using hi
      · rcases Nat.lt_or_ge i ops.size with h | h
        · rw [hl i h]; simp; omega
        · have : ¬ i < listed.size := by omega
          simp [Array.getD, this]
      · rw [hl j (Array.getElem?_eq_some_iff.1 ho).1] at hlj
        have : j < f := by simpa using hlj
        omega
      · have : ∀ m, m ≤ ops.size → cntU m (fun i => !listed.getD i false) = m - f := by
          intro m
          induction m with
          | zero => intro _; simp [cntU]
          | succ m ih =>
            intro hm
            simp only [cntU]
            rw [ih (by omega)]
            simp only [hl m (by omega)]
            by_cases h : m < f
            · simp [h]; omega
            · simp [h]; omega
        exact this ops.size (Nat.le_refl _)
  · cases e with
    | normal => exact hq
    | _ => exact hq.elim

theorem VW.mixl (hT : TabOk P T) (hm : P.follows .mixedOrders = true) (f n : Nat) {id : Nat} {st : St} {Q : Exit → St → Prop} (hD : mixOk ops f n = true) (h : ∀ K : St → Prop, (∀ s, Q .normal s → K s) → vmix P T ops f n 0 ops.toList st K) : VW P (.region id ops true) st Q :=
  VW.mix hT hm f n hD (h _ fun _ h => h)
end
end Go.Proofs.Yteeklekfafedcaa.V

/- Regions that run in any order: the law. No condition. -/
import Derived.Test.YteeklekfafedcaaV20
set_option linter.unusedVariables false
namespace Go.Proofs.Yteeklekfafedcaa.V
open Go Go.RowKit

theorem setD_len (st : St) (d : Option Tmp) (pv : PV) : (setD st d pv).length = st.length := by cases d <;> simp [setD]
theorem setD_at {st : St} {d : Option Tmp} {pv : PV} {t : Nat} (h : d ≠ some t) : (setD st d pv).at t = st.at t := by
  cases d with
  | none => rfl
  | some d => simp only [setD, St.at_set]; rw [if_neg (fun e => h (by rw [e.1]))]
theorem setD_self {st st' : St} {d : Nat} {pv : PV} (h : st.length = st'.length) (h2 : st.at d = st'.at d ∨ True) : (setD st (some d) pv).at d = (if d < st.length then pv else st.at d) := by
  simp only [setD, St.at_set]
  simp

section
variable {P : Program} {T : List (Nat × TI)} {ops : Array Oper}

theorem tr_facts : ∀ {i : Nat} {os : List Oper} {st F : St}, Tr P ops i os st F → F.length = st.length ∧ (∀ t, (∀ o ∈ os, o.dst ≠ some t) → F.at t = st.at t) ∧
    ∀ (k : Nat) (o : Oper), os[k]? = some o → ∃ s pv, Sure P ops o (unav ops (i + k)) s pv ∧ nonroot s o.dst = true ∧ s.length = st.length ∧ (∀ t, (∀ (j : Nat) (o' : Oper), j < k → os[j]? = some o' → o'.dst ≠ some t) → s.at t = st.at t) ∧
      ∀ t, (∀ (j : Nat) (o' : Oper), k < j → os[j]? = some o' → o'.dst ≠ some t) → (setD s o.dst pv).at t = F.at t := by
  intro i os st F h
  induction h with
  | nil => exact ⟨rfl, fun _ _ => rfl, fun k o hk => by simp at hk⟩
  | @step i o r st F pv hs hn ht ih =>
    obtain ⟨l1, l2, l3⟩ := ih
    refine ⟨by rw [l1, setD_len], fun t htt => ?_, fun k o' hk => ?_⟩
    · rw [l2 t fun o' ho' => htt o' (List.mem_cons_of_mem _ ho'), setD_at (htt o List.mem_cons_self)]
    · cases k with
      | zero =>
        simp only [List.getElem?_cons_zero, Option.some.injEq] at hk
        subst hk
        refine ⟨st, pv, hs, hn, rfl, fun _ _ => rfl, fun t htt => ?_⟩
        rw [l2 t fun o' ho' => ?_]
        obtain ⟨j, hj⟩ := List.mem_iff_getElem?.1 ho'
        exact htt (j + 1) o' (by omega) (by simpa using hj)
      | succ k =>
        simp only [List.getElem?_cons_succ] at hk
        obtain ⟨s, pv', q1, q2, q3, q4, q5⟩ := l3 k o' hk
        refine ⟨s, pv', by rw [show i + (k + 1) = i + 1 + k by omega]; exact q1, q2, by rw [q3, setD_len], fun t htt => ?_, fun t htt => ?_⟩
        · rw [q4 t fun j o2 hj ho2 => htt (j + 1) o2 (by omega) (by simpa using ho2), setD_at (htt 0 o (by omega) (by simp))]
        · exact q5 t fun j o2 hj ho2 => htt (j + 1) o2 (by omega) (by simpa using ho2)

/-! ### counting -/
def cntU : Nat → (Nat → Bool) → Nat
  | 0, _ => 0
  | n + 1, f => cntU n f + if f n = true then 1 else 0
theorem cntU_flip : ∀ (n : Nat) {f g : Nat → Bool} {i : Nat}, i < n → f i = true → g i = false → (∀ j, j ≠ i → g j = f j) → cntU n g + 1 = cntU n f
  | 0, _, _, _, h, _, _, _ => by omega
  | n + 1, f, g, i, h, h1, h2, h3 => by
    simp only [cntU]
    by_cases e : i = n
    · subst e
      have : cntU i g = cntU i f := by
        have key : ∀ m, m ≤ i → cntU m g = cntU m f := by
          intro m
          induction m with
          | zero => intro _; rfl
          | succ m ih => intro hm; simp only [cntU]; rw [ih (by omega), h3 m (by omega)]
        exact key i (Nat.le_refl _)
      rw [this, h1, h2]; simp
    · have := cntU_flip n (f := f) (g := g) (i := i) (by omega) h1 h2 h3
      rw [h3 n (by omega)]
      omega
theorem cntU_zero : ∀ (n : Nat) {f : Nat → Bool}, cntU n f = 0 → ∀ j, j < n → f j = false
  | 0, _, _, j, hj => by omega
  | n + 1, f, h, j, hj => by
    simp only [cntU] at h
    by_cases e : j = n
    · subst e
      cases hf : f j with
      | false => rfl
      | true => rw [hf] at h; simp at h
    · exact cntU_zero n (by omega) j (by omega)
theorem cntU_all (n : Nat) : cntU n (fun _ => true) = n := by
  induction n with
  | zero => rfl
  | succ n ih => simp only [cntU, ih]; simp

structure Inv (P : Program) (ops : Array Oper) (st F : St) (listed : Array Bool) (st' : St) : Prop where
  size : listed.size = ops.size
  closed : ∀ (i : Nat) (o : Oper), ops[i]? = some o → listed.getD i false = true → ∀ e ∈ o.after.toList, Region.binds .any e = true → listed.getD e.on false = true
  len : st'.length = st.length
  old : ∀ t, (∀ (j : Nat) (o : Oper), ops[j]? = some o → listed.getD j false = true → o.dst ≠ some t) → st'.at t = st.at t
  new : ∀ (j : Nat) (o : Oper) (t : Nat), ops[j]? = some o → listed.getD j false = true → o.dst = some t → st'.at t = F.at t

theorem drawOk_spec (hD : drawOk ops = true) {i : Nat} {o : Oper} (ho : ops[i]? = some o) : (∀ e ∈ o.after.toList, Region.binds .any e = true → e.on < i) ∧ ∀ (j : Nat) (o' : Oper) (d : Nat), ops[j]? = some o' → j ≠ i → o.dst = some d → o'.dst ≠ some d := by
  have hlt : i < ops.size := (Array.getElem?_eq_some_iff.1 ho).1
  have hd := List.all_eq_true.1 hD i (List.mem_range.2 hlt)
  rw [ho] at hd
  simp only [Bool.and_eq_true] at hd
  obtain ⟨⟨⟨h1, _⟩, _⟩, h2⟩ := hd
  refine ⟨fun e he hb => ?_, fun j o' d ho' hj hdst hdst' => ?_⟩
  · have := List.all_eq_true.1 h1 e he
    simpa [hb] using this
  · have hj' : j < ops.size := (Array.getElem?_eq_some_iff.1 ho').1
    have := List.all_eq_true.1 h2 j (List.mem_range.2 hj')
    rw [ho'] at this
    simp [hj, hdst, hdst'] at this

theorem anc_listed (hD : drawOk ops = true) {listed : Array Bool} (hc : ∀ (i : Nat) (o : Oper), ops[i]? = some o → listed.getD i false = true → ∀ e ∈ o.after.toList, Region.binds .any e = true → listed.getD e.on false = true) :
    ∀ (i : Nat) (o : Oper), ops[i]? = some o → (∀ e ∈ o.after.toList, Region.binds .any e = true → listed.getD e.on false = true) → ∀ m ∈ anc ops i, m < i ∧ listed.getD m false = true := by
  intro i
  induction i using Nat.strongRecOn with
  | _ i ih =>
    intro o ho hl m hm
    have hlt := (drawOk_spec hD ho).1
    obtain ⟨e, e1, e2, e3⟩ := anc_mem ho hlt hm
    have h1 := hlt e e1 e2
    rcases e3 with rfl | e3
    · exact ⟨h1, hl e e1 e2⟩
    · have hi : i < ops.size := (Array.getElem?_eq_some_iff.1 ho).1
      have ho2 : ops[e.on]? = some ops[e.on] := Array.getElem?_eq_getElem (by omega)
      obtain ⟨q1, q2⟩ := ih e.on h1 _ ho2 (hc e.on _ ho2 (hl e e1 e2)) m e3
      exact ⟨by omega, q2⟩

theorem any_ok (hD : drawOk ops = true) {st F : St} (htr : Tr P ops 0 ops.toList st F) {Q : Exit → Act → World → Prop} {L0 : Lay} {w0 : World} (hQ : ∀ L a w, Stp L0 L w0 w → Rel L F a w Free → Q .normal a w) :
    ∀ (fuel : Nat) (listed : Array Bool) (L : Lay) (st' : St) (a : Act) (w : World), Inv P ops st F listed st' → cntU ops.size (fun i => !listed.getD i false) = fuel → Rel L st' a w Free → Stp L0 L w0 w → wpAny P .any ops Q fuel listed a w := by
  obtain ⟨hFl, hFo, hfacts⟩ := tr_facts htr
  have hgd : ∀ {listed : Array Bool} {i : Nat}, listed.size = ops.size → i < ops.size → listed.getD i true = listed.getD i false := by
    intro listed i hs hi
    have : i < listed.size := by omega
    simp [Array.getD, this]
  have hready : ∀ {listed : Array Bool} {i : Nat}, listed.size = ops.size → (i ∈ Region.ready .any ops listed ↔ ∃ o, ops[i]? = some o ∧ listed.getD i false = false ∧ ∀ e ∈ o.after.toList, Region.binds .any e = true → listed.getD e.on false = true) := by
    intro listed i hs
    unfold Region.ready
    rw [List.mem_filter, List.mem_range]
    constructor
    · rintro ⟨hi, h2⟩
      have ho : ops[i]? = some ops[i] := Array.getElem?_eq_getElem hi
      rw [ho, hgd hs hi] at h2
      simp only [Bool.and_eq_true, Bool.not_eq_true', Option.map_some, Option.getD_some] at h2
      refine ⟨_, ho, h2.1, fun e he hb => ?_⟩
      have := (Array.all_eq_true_iff_forall_mem.1 h2.2) e (by simpa using he)
      simpa [hb] using this
    · rintro ⟨o, ho, h1, h2⟩
      have hi : i < ops.size := (Array.getElem?_eq_some_iff.1 ho).1
      refine ⟨hi, ?_⟩
      rw [ho, hgd hs hi, h1]
      simp only [Bool.not_false, Bool.true_and, Option.map_some, Option.getD_some]
      refine Array.all_eq_true_iff_forall_mem.2 fun e he => ?_
      by_cases hb : Region.binds .any e = true
      · rw [h2 e (by simpa using he) hb]; simp
      · simp [hb]
  have fin : ∀ (listed : Array Bool) (L : Lay) (st' : St) (a : Act) (w : World), Inv P ops st F listed st' → (∀ j, j < ops.size → listed.getD j false = true) → Rel L st' a w Free → Stp L0 L w0 w → Q .normal a w := by
    intro listed L st' a w hI hall hrel hs
    have hat : ∀ t, st'.at t = F.at t := by
      intro t
      by_cases hex : ∃ (j : Nat) (o : Oper), ops[j]? = some o ∧ o.dst = some t
      · obtain ⟨j, o, h1, h2⟩ := hex
        exact hI.new j o t h1 (hall j (Array.getElem?_eq_some_iff.1 h1).1) h2
      · rw [hI.old t fun j o h1 _ h2 => hex ⟨j, o, h1, h2⟩, hFo t fun o ho h2 => ?_]
        obtain ⟨j, hj⟩ := List.mem_iff_getElem?.1 ho
        exact hex ⟨j, o, by simpa using hj, h2⟩
    have e : st' = F := by
      apply List.ext_getElem
      · rw [hI.len, hFl]
      · intro t h1 h2
        have := hat t
        unfold St.at at this
        rw [List.getD_eq_getElem?_getD, List.getD_eq_getElem?_getD, List.getElem?_eq_getElem h1, List.getElem?_eq_getElem h2] at this
        exact this
    subst e
    exact hQ L a w hs hrel
  intro fuel
  induction fuel with
  | zero =>
    intro listed L st' a w hI hc hrel hs
    have hall : ∀ j, j < ops.size → listed.getD j false = true := fun j hj => by simpa using cntU_zero _ hc j hj
    refine ⟨?_, fin listed L st' a w hI hall hrel hs⟩
    rw [List.eq_nil_iff_forall_not_mem]
    intro i hi
    obtain ⟨o, ho, h1, _⟩ := (hready hI.size).1 hi
    rw [hall i (Array.getElem?_eq_some_iff.1 ho).1] at h1
    cases h1
  | succ fuel ih =>
    intro listed L st' a w hI hc hrel hs
    refine ⟨fun hr => ?_, fun i hi => ?_⟩
    · refine fin listed L st' a w hI (fun j => ?_) hrel hs
      induction j using Nat.strongRecOn with
      | _ j ihj =>
        intro hj
        cases hl : listed.getD j false with
        | true => rfl
        | false =>
          have ho : ops[j]? = some ops[j] := Array.getElem?_eq_getElem hj
          have : j ∈ Region.ready .any ops listed := (hready hI.size).2 ⟨_, ho, hl, fun e he hb => by
            have := (drawOk_spec hD ho).1 e he hb
            exact ihj e.on this (by omega)⟩
          rw [hr] at this
          cases this
    · obtain ⟨o, ho, h1, h2⟩ := (hready hI.size).1 hi
      have hi' : i < ops.size := (Array.getElem?_eq_some_iff.1 ho).1
      obtain ⟨s, pv, f1, f2, f3, f4, f5⟩ := hfacts i o (by simpa using ho)
      rw [Nat.zero_add] at f1
      have hsp := drawOk_spec hD ho
      have hanc := anc_listed hD hI.closed i o ho h2
      have hag : ∀ t, t ∉ unav ops i → st'.at t = s.at t := by
        intro t ht
        by_cases hex : ∃ (j : Nat) (o' : Oper), ops[j]? = some o' ∧ o'.dst = some t
        · obtain ⟨j, o', g1, g2⟩ := hex
          have hj : j < ops.size := (Array.getElem?_eq_some_iff.1 g1).1
          have hja : j ∈ anc ops i := by
            refine Classical.byContradiction fun hn => ht ?_
            refine List.mem_filterMap.2 ⟨j, List.mem_range.2 hj, ?_⟩
            have hn' : (anc ops i).contains j = false := by simpa using hn
            rw [hn', g1]
            simpa using g2
          obtain ⟨q1, q2⟩ := hanc j hja
          have hspj := drawOk_spec hD g1
          rw [hI.new j o' t g1 q2 g2, ← f5 t fun k o2 hk ho2 => hspj.2 k o2 t (by simpa using ho2) (by omega) g2]
          exact setD_at (hspj.2 i o t ho (by omega) g2)
        · rw [hI.old t fun j o' g1 _ g2 => hex ⟨j, o', g1, g2⟩, f4 t fun j o' _ g1 g2 => hex ⟨j, o', by simpa using g1, g2⟩]
      have hdst : ∀ d, o.dst = some d → st'.at d = st.at d ∧ s.at d = st.at d := fun d hd => ⟨hI.old d fun j o' g1 g2 g3 => by
        by_cases e : j = i
        · subst e; rw [h1] at g2; cases g2
        · exact hsp.2 j o' d g1 e hd g3, f4 d fun j o' hj g1 => hsp.2 j o' d (by simpa using g1) (by omega) hd⟩
      have hnr : nonroot st' o.dst = true := by
        cases hd : o.dst with
        | none => rfl
        | some d =>
          rw [hd] at f2
          obtain ⟨q1, q2⟩ := hdst d hd
          simp only [nonroot] at f2 ⊢
          rw [q1, ← q2]; exact f2
      have hset : ∀ k, (listed.setIfInBounds i true).getD k false = if k = i then true else listed.getD k false := by
        intro k
        have hil : i < listed.size := by rw [hI.size]; exact hi'
        simp only [Array.getD_eq_getD_getElem?, Array.getElem?_setIfInBounds]
        by_cases e : i = k
        · subst e; simp [hil]
        · have e' : ¬ k = i := fun h => e h.symm
          simp [e, e']
      have hw := f1 st' hag hnr L a w (wpAny P .any ops Q fuel (listed.setIfInBounds i true)) Q hrel fun L' a' w' hs' hr' => ?_
      · unfold wpOp
        rw [ho]
        exact hw
      · refine ih (listed.setIfInBounds i true) L' _ a' w' ⟨by rw [Array.size_setIfInBounds, hI.size], fun k o' hk hl e he hb => ?_, by rw [setD_len, hI.len], fun t ht => ?_, fun j o' t hj hl hd => ?_⟩ ?_ hr' (hs.trans hs')
        · rw [hset] at hl ⊢
          by_cases e1 : k = i
          · subst e1
            rw [ho] at hk
            obtain rfl := Option.some.inj hk
            rw [h2 e he hb]; simp
          · rw [if_neg e1] at hl
            rw [hI.closed k o' hk hl e he hb]; simp
        · have hne : o.dst ≠ some t := ht i o ho (by rw [hset, if_pos rfl])
          rw [setD_at hne]
          exact hI.old t fun j o' g1 g2 => ht j o' g1 (by rw [hset, g2]; simp)
        · by_cases e1 : j = i
          · subst e1
            rw [ho] at hj
            obtain rfl := Option.some.inj hj
            rw [← f5 t fun k o2 hk ho2 => hsp.2 k o2 t (by simpa using ho2) (by omega) hd]
            obtain ⟨q1, q2⟩ := hdst t hd
            rw [hd, setD_self (st' := st) hI.len (.inr trivial), setD_self (st' := st) f3 (.inr trivial), hI.len, f3, q1, q2]
          · rw [hset, if_neg e1] at hl
            rw [setD_at (hsp.2 j o' t hj e1 · hd)]
            exact hI.new j o' t hj hl hd
        · have := cntU_flip ops.size (f := fun k => !listed.getD k false) (g := fun k => !(listed.setIfInBounds i true).getD k false) hi' (by simp only [h1]; rfl) (by simp only [hset]; simp) (fun j hj => by simp only [hset, if_neg hj])
          omega

theorem VW.draw (hT : TabOk P T) (hm : P.follows .mixedOrders = true) (hD : drawOk ops = true) {id : Nat} {st : St} {Q : Exit → St → Prop} (h : vdraw P T ops 0 ops.toList st (Q .normal)) : VW P (.region id ops true) st Q := by
  intro L a w hr
  obtain ⟨F, htr, hF⟩ := vdraw_tr hT hD ops.toList 0 (by simp) h
  refine wp_region_any hm ?_
  have hx : Ext w { w with drawn := w.drawn + 1 } := Ext.drew w
  refine any_ok hD htr (L0 := L) (w0 := w) (fun L' a' w' s r => ⟨L', F, s, r, hF⟩) ops.size _ L st a _ ⟨by simp, fun i o ho hl => ?_, rfl, fun _ _ => rfl, fun j o t hj hl => ?_⟩ ?_ (hr.grow hx) (Stp.ext hx)
  · have hi : i < ops.size := (Array.getElem?_eq_some_iff.1 ho).1
    simp [Array.getD, hi] at hl
  · have hi : j < ops.size := (Array.getElem?_eq_some_iff.1 hj).1
    simp [Array.getD, hi] at hl
  · have : ∀ n, n ≤ ops.size → cntU n (fun i => !(Array.replicate ops.size false).getD i false) = n := by
      intro n
      induction n with
      | zero => intro _; rfl
      | succ n ih =>
        intro hn
        simp only [cntU]
        rw [ih (by omega)]
        have : n < ops.size := by omega
        simp [Array.getD, this]
    exact this ops.size (Nat.le_refl _)

theorem VW.drawl (hT : TabOk P T) (hm : P.follows .mixedOrders = true) {id : Nat} {st : St} {Q : Exit → St → Prop} (hD : drawOk ops = true) (h : ∀ K : St → Prop, (∀ s, Q .normal s → K s) → vdraw P T ops 0 ops.toList st K) : VW P (.region id ops true) st Q :=
  VW.draw hT hm hD (h _ fun _ h => h)

theorem VW.drawK (hT : TabOk P T) (hm : P.follows .mixedOrders = true) {id : Nat} {y : Code} {st : St} {Q : Exit → St → Prop} (hD : drawOk ops = true) (h : ∀ K : St → Prop, (∀ s, VW P y s Q → K s) → vdraw P T ops 0 ops.toList st K) : VW P (.seq (.region id ops true) y) st Q :=
  VW.seq (VW.draw hT hm hD (h _ fun _ h => h))
end
end Go.Proofs.Yteeklekfafedcaa.V

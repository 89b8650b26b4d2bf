/- Regions in any order, every order looked at. No condition. -/
import Derived.Test.YtmechjnfeidnkaaA3
import Derived.Orders
set_option linter.unusedVariables false
set_option linter.unnecessarySimpa false
set_option linter.unusedSimpArgs false
namespace Go.Proofs.Ytmechjnfeidnkaa.V
open Go Go.RowKit
/-- what is listed, as a number -/
def arr (n m : Nat) : Array Bool := Array.ofFn (n := n) fun i => m.testBit i
theorem arr_size (n m : Nat) : (arr n m).size = n := by simp [arr]
theorem arr_get (n m j : Nat) : (arr n m).getD j false = (decide (j < n) && m.testBit j) := by
  by_cases h : j < n
  · simp [arr, Array.getD, h]
  · simp [arr, Array.getD, h]
theorem arr_el {n m j : Nat} (h : j < (arr n m).size) : (arr n m)[j] = m.testBit j := by simp [arr]
theorem arr_set {n m i : Nat} (hi : i < n) : (arr n m).setIfInBounds i true = arr n (m ||| 2 ^ i) := by
  apply Array.ext
  · rw [Array.size_setIfInBounds, arr_size, arr_size]
  · intro j h1 h2
    have h3 : j < (arr n m).size := by rw [arr_size]; rwa [arr_size] at h2
    rw [Array.getElem_setIfInBounds h3, arr_el h2, Nat.testBit_or]
    by_cases e : i = j
    · subst e; simp
    · rw [arr_size] at h2
      rw [if_neg e, arr_el (by rw [arr_size]; exact h2), Nat.testBit_two_pow_of_ne e, Bool.or_false]
def chk (ops : Array Oper) (m : Nat) (ps : List (Nat × Nat)) : Bool := (Region.ready .any ops (arr ops.size m) == ps.map (·.1)) && ps.all fun p => (m ||| 2 ^ p.1 == p.2)
def takeChk (ops : Array Oper) (m i m' : Nat) : Bool := Region.noSelect ops && (Region.free .any ops (arr ops.size m) i && ((Region.ready .any ops (arr ops.size m)).contains i && (m ||| 2 ^ i == m')))
def doneChk (ops : Array Oper) (m : Nat) : Bool := Region.ready .any ops (arr ops.size m) == []
section
variable {P : Program} {T : List (Nat × TI)} {ops : Array Oper}
/-- one operation -/
def vone (P : Program) (T : List (Nat × TI)) (ops : Array Oper) (i : Nat) (st0 : St) (K : St → Prop) : Prop :=
  match ops[i]? with
  | some o => @vguard st0 ops o ⟨fun run st => match run with
    | true => @vread P T st o ⟨fun st1 pv => nonroot st1 o.dst = true ∧ K (setD st1 o.dst pv)⟩
    | false => nonroot st o.dst = true ∧ K (setD st o.dst skipPV)⟩
  | none => True
def vpure (ops : Array Oper) (i : Nat) (st : St) (K : St → Prop) : Prop :=
  match ops[i]? with
  | some o => @vfloat (pureOp st o) ⟨fun pv => nonroot st o.dst = true ∧ K (setD st o.dst pv)⟩
  | none => True
def isFld (st : St) (o : Oper) : Bool := match o.guard with
  | some _ => false
  | none => match o.op with
    | .fieldAddr _ x _ => match ref st x with
      | .adr _ _ => true
      | _ => false
    | _ => false
def vfld (P : Program) (T : List (Nat × TI)) (ops : Array Oper) (i : Nat) (st : St) (K : St → Prop) : Prop :=
  match ops[i]? with
  | some o => isFld st o = true ∧ @vread P T st o ⟨fun st1 pv => nonroot st1 o.dst = true ∧ K (setD st1 o.dst pv)⟩
  | none => True
def vall (P : Program) (T : List (Nat × TI)) (ops : Array Oper) (W : Nat → St → Prop) (st : St) : List (Nat × Nat) → Prop
  | [] => True
  | p :: r => vone P T ops p.1 st (W p.2) ∧ vall P T ops W st r
/-- how one goes on in a region in any order -/
structure Ruled (P : Program) (T : List (Nat × TI)) (ops : Array Oper) (K : St → Prop) (W : Nat → St → Prop) : Prop where
  done : ∀ (m : Nat) (st : St), doneChk ops m = true → K st → W m st
  all : ∀ (m : Nat) (ps : List (Nat × Nat)) (st : St), chk ops m ps = true → ps ≠ [] → vall P T ops W st ps → W m st
  take : ∀ (m i m' : Nat) (st : St), takeChk ops m i m' = true → vpure ops i st (W m') → W m st
  takeF : ∀ (m i m' : Nat) (st : St), takeChk ops m i m' = true → vfld P T ops i st (W m') → W m st
theorem fld_pure (hT : TabOk P T) {L : Lay} {st : St} {a : Act} {w : World} (h : Rel L st a w Free) {o : Oper} {t n : Nat} {x : Operand} {g : Nat} {p : Path} {out : Out} (ho : o.op = .fieldAddr t x n) (hx : ref st x = .adr g p) (hg0 : o.guard = none) (hp : pop T st st o = some out) : ∃ v, Yields P ops o v a ∧ ORep L st w out.pv v ∧ out.pv.isRoot = false ∧ out.st = st := by
  have hw : Region.wanted o (yielded ops a.tmps) = true := by unfold Region.wanted; rw [hg0]
  unfold pop at hp
  rw [ho] at hp
  simp only at hp
  have hv := h.opnd x
  split at hp
  · rename_i i hi
    have hTt := hT t i hi
    rw [hx] at hp hv
    simp only at hp
    split at hp
    · rename_i s f y hl
      split at hp
      · rename_i hc
        obtain ⟨hs, hn, hag⟩ := hc
        obtain rfl := (Option.some.inj hp)
        obtain ⟨s1, cs1, A, q1, q2⟩ := hv
        obtain rfl := q1.shape hl
        subst hs
        obtain ⟨fs, u1, u2, u3⟩ := hTt.str hag
        obtain ⟨fd, agg1, s1, of, fi, v1, v2, v3, v4, v5, v6, v7, v8, v9, v10⟩ := (u3 n hn).ex
        obtain ⟨k1, ⟨f2, x2, k2⟩, k3, k4, k5⟩ := field_at n i.nf v3 f y
        obtain ⟨_, _, B1, _, m4⟩ := h.place q1 hl
        refine ⟨.pointer (some (A.add of)), .inl ⟨hw, fun w' => ?_⟩, ⟨s1, (cs1.drop of).take s1.size, A.add of, q1.app hl k1 k2 (k4 w cs1 (some A) m4.len), rfl⟩, rfl, rfl⟩
        have hne : ¬ s1.size = 0 := by omega
        simp [execOp, ho, Instr.fieldAt, run_underlying u1, v1, Instr.sureAddr, q2, fieldPlace, run_size v5, v6, hne, v4]
      · cases hp
    · cases hp
  · cases hp
theorem vall_mem {W : Nat → St → Prop} {st : St} : ∀ {ps : List (Nat × Nat)} {p : Nat × Nat}, vall P T ops W st ps → p ∈ ps → vone P T ops p.1 st (W p.2)
  | q :: r, p, h, hp => by
    rcases List.mem_cons.1 hp with rfl | hp
    · exact h.1
    · exact vall_mem h.2 hp
theorem cnt_set {n m i : Nat} (hi : i < n) (hb : (arr n m).getD i false = false) : cntU n (fun j => !(arr n (m ||| 2 ^ i)).getD j false) + 1 = cntU n (fun j => !(arr n m).getD j false) := by
  refine cntU_flip n (i := i) hi (by simp only [hb]; rfl) ?_ fun j hj => ?_
  · show (!(arr n (m ||| 2 ^ i)).getD i false) = false
    rw [arr_get, Nat.testBit_or, Nat.testBit_two_pow_self, decide_eq_true hi]
    simp
  · show (!(arr n (m ||| 2 ^ i)).getD j false) = (!(arr n m).getD j false)
    rw [arr_get, arr_get, Nat.testBit_or, Nat.testBit_two_pow_of_ne (fun e => hj e.symm), Bool.or_false]
theorem cnt_zero {n m : Nat} (h : cntU n (fun j => !(arr n m).getD j false) = 0) {i : Nat} (hi : i < n) : (arr n m).getD i false = true := by
  have := cntU_zero n h i hi
  simpa using this
theorem VW.any (hT : TabOk P T) (hm : P.follows .mixedOrders = true) {id : Nat} {st : St} {Q : Exit → St → Prop} (h : ∀ (K : St → Prop), (∀ s, Q .normal s → K s) → ∀ W : Nat → St → Prop, Ruled P T ops K W → W 0 st) : VW P (.region id ops true) st Q := by
  intro L a w hr
  refine wp_mono (Q := fun e a' w' => match e with | .normal => ∃ L' st', Stp L L' w w' ∧ Rel L' st' a' w' Free ∧ Q .normal st' | _ => False) ?_ (fun e a' w' hq => ?_)
  case refine_2 =>
    cases e with
    | normal => exact hq
    | _ => exact hq.elim
  refine wp_region_any hm ?_
  have hx : Ext w { w with drawn := w.drawn + 1 } := Ext.drew w
  have hr1 := hr.grow hx
  have hst1 := Stp.ext (L := L) hx
  generalize ({ w with drawn := w.drawn + 1 } : World) = w1 at hr1 hst1 ⊢
  have key := h (Q .normal) (fun _ h => h) (fun m st => ∀ (n : Nat), cntU ops.size (fun j => !(arr ops.size m).getD j false) = n → ∀ (L' : Lay) (a : Act) (w' : World), Stp L L' w w' → Rel L' st a w' Free → wpAny P .any ops (fun e a' w' => match e with | .normal => ∃ L' st', Stp L L' w w' ∧ Rel L' st' a' w' Free ∧ Q .normal st' | _ => False) n (arr ops.size m) a w') ?_
  · have e0 : arr ops.size 0 = Array.replicate ops.size false := by
      apply Array.ext
      · simp [arr]
      · intro j h1 h2
        simp [arr]
    have c0 : cntU ops.size (fun j => !(arr ops.size 0).getD j false) = ops.size := by
      have e1 : (fun j => !(arr ops.size 0).getD j false) = fun _ => true := by
        funext j
        rw [arr_get, Nat.zero_testBit, Bool.and_false]
        rfl
      rw [e1]
      exact cntU_all ops.size
    have := key _ c0 L a w1 hst1 hr1
    rwa [e0] at this
  · refine ⟨fun m st hd hk n hn L' a w' hs hr => ?_, fun m ps st hc hne hv n hn L' a w' hs hr => ?_, fun m i m' st hc hv n hn L' a w' hs hr => ?_, fun m i m' st hc hv n hn L' a w' hs hr => ?_⟩
    · have hd : Region.ready .any ops (arr ops.size m) = [] := by simpa [doneChk] using hd
      exact wpAny_done hd ⟨L', st, hs, hr, hk⟩ n
    · simp only [chk, Bool.and_eq_true, beq_iff_eq] at hc
      obtain ⟨hrd, hms⟩ := hc
      have hin : ∀ i ∈ Region.ready .any ops (arr ops.size m), ∃ p ∈ ps, p.1 = i ∧ i < ops.size ∧ (arr ops.size m).getD i false = false ∧ ∃ o, ops[i]? = some o := fun i hi => by
        obtain ⟨o, h1, h2, _⟩ := (ready_iff (arr_size _ _)).1 hi
        rw [hrd] at hi
        obtain ⟨p, hp, rfl⟩ := List.mem_map.1 hi
        exact ⟨p, hp, rfl, (Array.getElem?_eq_some_iff.1 h1).1, h2, o, h1⟩
      have hnil : Region.ready .any ops (arr ops.size m) ≠ [] := by
        rw [hrd]
        intro h0
        exact hne (List.map_eq_nil_iff.1 h0)
      cases n with
      | zero =>
        obtain ⟨i, hi⟩ := List.exists_mem_of_ne_nil _ hnil
        obtain ⟨p, _, _, h1, h2, _⟩ := hin i hi
        rw [cnt_zero hn h1] at h2
        cases h2
      | succ n =>
        refine ⟨fun h0 => absurd h0 hnil, fun i hi => ?_⟩
        obtain ⟨p, hp, rfl, h1, h2, o, ho⟩ := hin i hi
        have hm' : m ||| 2 ^ p.1 = p.2 := by
          have := List.all_eq_true.1 hms p hp
          simpa using this
        have hcn := cnt_set h1 h2
        rw [hm'] at hcn
        have hv1 := vall_mem hv hp
        unfold vone at hv1
        rw [ho] at hv1
        have hg := vguard_ok hr hv1
        rw [arr_set h1, hm']
        unfold wpOp
        rw [ho]
        simp only
        cases hw : Region.wanted o (yielded ops a.tmps) with
        | true =>
          rw [hw] at hg
          simp only at hg
          rw [if_pos rfl]
          left
          refine vread_ok hT hg (fun st1 pv hK => hK.1) L' a w' _ _ hr fun st' L2 a2 w2 ⟨st1, pv, hK, e⟩ hs' hr' => ?_
          subst e
          exact hK.2 n (by omega) L2 a2 w2 (hs.trans hs') hr'
        | false =>
          rw [hw] at hg
          simp only at hg
          rw [if_neg (by simp)]
          obtain ⟨L2, s1, s2⟩ := skip_ok hr hg.1
          exact hg.2 n (by omega) L2 _ w' (hs.trans s1) s2
    · simp only [takeChk, Bool.and_eq_true, beq_iff_eq] at hc
      obtain ⟨c1, c2, c3, c4⟩ := hc
      obtain ⟨o, ho, h2, _⟩ := (ready_iff (arr_size _ _)).1 (show i ∈ Region.ready .any ops (arr ops.size m) by simpa using c3)
      have h1 : i < ops.size := (Array.getElem?_eq_some_iff.1 ho).1
      have hcn := cnt_set h1 h2
      rw [c4] at hcn
      unfold vpure at hv
      rw [ho] at hv
      simp only [vfloat] at hv
      split at hv
      · rename_i pv hp
        obtain ⟨hnr, hv⟩ := hv
        obtain ⟨v, y1, y2, y3⟩ := pureOp_ok (P := P) (ops := ops) hr hp
        have hr' : Rel L' (setD st o.dst pv) (a.put o.dst v) w' Free := by
          cases hd : o.dst with
          | none => exact hr
          | some d => exact hr.setO (nonroot_spec hnr d hd) y3 y2
        cases n with
        | zero =>
          rw [cnt_zero hn h1] at h2
          cases h2
        | succ n =>
          refine wpAny_take ho c1 c2 c3 (fun c a w hq => hq.elim) y1 ?_
          rw [arr_set h1, c4]
          exact hv n (by omega) L' _ w' hs hr'
      · exact hv.elim
    · simp only [takeChk, Bool.and_eq_true, beq_iff_eq] at hc
      obtain ⟨c1, c2, c3, c4⟩ := hc
      obtain ⟨o, ho, h2, _⟩ := (ready_iff (arr_size _ _)).1 (show i ∈ Region.ready .any ops (arr ops.size m) by simpa using c3)
      have h1 : i < ops.size := (Array.getElem?_eq_some_iff.1 ho).1
      have hcn := cnt_set h1 h2
      rw [c4] at hcn
      unfold vfld at hv
      rw [ho] at hv
      obtain ⟨hf, hv⟩ := hv
      simp only [isFld] at hf
      split at hf
      · cases hf
      rename_i hg0
      split at hf
      · rename_i t x k hop
        split at hf
        · rename_i g p hx
          unfold vread at hv
          rw [hop] at hv
          simp only at hv
          have hnil : nilTest T st o = none := by unfold nilTest; rw [hop]
          rw [hnil] at hv
          simp only at hv
          split at hv
          · rename_i out hp
            obtain ⟨_, hnr, hv⟩ := hv
            obtain ⟨v, y1, y2, y3, y4⟩ := fld_pure (P := P) (ops := ops) hT hr hop hx hg0 hp
            rw [y4] at hnr hv
            have hr' : Rel L' (setD st o.dst out.pv) (a.put o.dst v) w' Free := by
              cases hd : o.dst with
              | none => exact hr
              | some d => exact hr.setO (nonroot_spec hnr d hd) y3 y2
            cases n with
            | zero =>
              rw [cnt_zero hn h1] at h2
              cases h2
            | succ n =>
              refine wpAny_take ho c1 c2 c3 (fun c a w hq => hq.elim) y1 ?_
              rw [arr_set h1, c4]
              exact hv n (by omega) L' _ w' hs hr'
          · exact hv.elim
        · cases hf
      · cases hf
end
end Go.Proofs.Ytmechjnfeidnkaa.V

/- Regions that run in any order, with a tail that comes behind all else (writes, calls that write) and with moves that may come at any time. No condition. -/
import Derived.Test.YteeklekfafedcaaV24
set_option linter.unusedVariables false
namespace Go.Proofs.Yteeklekfafedcaa.V
open Go Go.RowKit

def floatOk (ops : Array Oper) : Nat → Nat → Array Bool → Bool
  | 0, _, _ => true
  | f + 1, k, listed => (Region.ready .any ops listed).contains k && Region.free .any ops listed k && floatOk ops f (k + 1) (listed.setIfInBounds k true)
def unavB (ops : Array Oper) (f n i : Nat) : List Nat := (List.range ops.size).filterMap fun j => if (anc ops i).contains j || decide (j < f) || decide (n ≤ j) then none else (ops[j]?).bind (·.dst)
def guardOkB (ops : Array Oper) (U : List Nat) (o : Oper) : Bool := match o.guard with
  | none => true
  | some (j, _) => match (ops[j]?).bind (·.dst) with
    | none => true
    | some d => !U.contains d
def mixOk (ops : Array Oper) (f n : Nat) : Bool := Region.noSelect ops && decide (f ≤ n) && decide (n ≤ ops.size) && floatOk ops f 0 (Array.replicate ops.size false) &&
  (List.range ops.size).all fun i => match ops[i]? with
  | none => true
  | some o => o.after.toList.all (fun e => !Region.binds .any e || decide (e.on < i)) && (decide (i < f) ||
    (if i < n then (reads o).all (fun t => !(unavB ops f n i).contains t) && guardOkB ops (unavB ops f n i) o && (List.range ops.size).all fun j => decide (j = i) || decide (j < f) || decide (n ≤ j) || match o.dst, (ops[j]?).bind (·.dst) with
        | some d, some d' => decide (d ≠ d')
        | _, _ => true
     else (List.range i).all fun j => decide (j < f) || (anc ops i).contains j))

/-- a move, or whole numbers reckoned -/
def pureOp (st : St) (o : Oper) : Option PV :=
  match o.guard with
  | some _ => none
  | none => match o.op with
    | .move x => match ref st x with
      | .dead => none
      | pv => some pv
    | .binOp .sub _ x y _ => match ref st x, ref st y with
      | .v false (.int k) a, .v false (.int k') b => if k = k' then some (.v false (.int k) (k.wrap (a - b))) else none
      | _, _ => none
    | .binOp .add _ x y _ => match ref st x, ref st y with
      | .v false (.int k) a, .v false (.int k') b => if k = k' then some (.v false (.int k) (k.wrap (a + b))) else none
      | _, _ => none
    | _ => none

def vsel (i f n : Nat) [A : Hd (Unit → Prop)] [B : Hd (Unit → Prop)] [C : Hd (Unit → Prop)] : Prop := if i < f then A.val () else if i < n then B.val () else C.val ()
theorem vs_a {i f n : Nat} {A B C : Unit → Prop} (h : i < f) : @vsel i f n ⟨A⟩ ⟨B⟩ ⟨C⟩ = A () := by simp [vsel, h]
theorem vs_b {i f n : Nat} {A B C : Unit → Prop} (h : ¬ i < f) (h2 : i < n) : @vsel i f n ⟨A⟩ ⟨B⟩ ⟨C⟩ = B () := by simp [vsel, h, h2]
theorem vs_c {i f n : Nat} {A B C : Unit → Prop} (h : ¬ i < f) (h2 : ¬ i < n) : @vsel i f n ⟨A⟩ ⟨B⟩ ⟨C⟩ = C () := by simp [vsel, h, h2]
def vfloat (q : Option PV) [K : Hd (PV → Prop)] : Prop := match q with
  | some pv => K.val pv
  | none => False
def vmix (P : Program) (T : List (Nat × TI)) (ops : Array Oper) (f n : Nat) : Nat → List Oper → St → (St → Prop) → Prop
  | _, [], st, K => K st
  | i, o :: r, st0, K => @vsel i f n ⟨fun _ => @vfloat (pureOp st0 o) ⟨fun pv => nonroot st0 o.dst = true ∧ vmix P T ops f n (i + 1) r (setD st0 o.dst pv) K⟩⟩
    ⟨fun _ => @vguard st0 ops o ⟨fun run st => match run with
      | true => mentOk (unavB ops f n i) st o = true ∧ nonroot st o.dst = true ∧ @vreadD P T st o ⟨fun pv => vmix P T ops f n (i + 1) r (setD st o.dst pv) K⟩
      | false => nonroot st o.dst = true ∧ vmix P T ops f n (i + 1) r (setD st o.dst skipPV) K⟩⟩
    ⟨fun _ => @vguard st0 ops o ⟨fun run st => match run with
      | true => @vread P T st o ⟨fun st1 pv => nonroot st1 o.dst = true ∧ vmix P T ops f n (i + 1) r (setD st1 o.dst pv) K⟩
      | false => nonroot st o.dst = true ∧ vmix P T ops f n (i + 1) r (setD st o.dst skipPV) K⟩⟩

section
variable {P : Program} {T : List (Nat × TI)} {ops : Array Oper} {f n : Nat}

theorem mixOk_spec (hD : mixOk ops f n = true) : Region.noSelect ops = true ∧ f ≤ n ∧ n ≤ ops.size ∧ floatOk ops f 0 (Array.replicate ops.size false) = true ∧ ∀ (i : Nat) (o : Oper), ops[i]? = some o →
    (∀ e ∈ o.after.toList, Region.binds .any e = true → e.on < i) ∧ (f ≤ i → i < n → (∀ t ∈ reads o, t ∉ unavB ops f n i) ∧ guardOkB ops (unavB ops f n i) o = true ∧ ∀ (j : Nat) (o' : Oper) (d : Nat), ops[j]? = some o' → j ≠ i → f ≤ j → j < n → o.dst = some d → o'.dst ≠ some d) ∧
    (f ≤ i → n ≤ i → ∀ j, f ≤ j → j < i → j ∈ anc ops i) := by
  simp only [mixOk, Bool.and_eq_true, decide_eq_true_eq] at hD
  obtain ⟨⟨⟨⟨h1, h2⟩, h3⟩, h4⟩, h5⟩ := hD
  refine ⟨h1, h2, h3, h4, fun i o ho => ?_⟩
  have hlt : i < ops.size := (Array.getElem?_eq_some_iff.1 ho).1
  have hd := List.all_eq_true.1 h5 i (List.mem_range.2 hlt)
  rw [ho] at hd
  simp only [Bool.and_eq_true, Bool.or_eq_true, decide_eq_true_eq] at hd
  obtain ⟨d1, d2⟩ := hd
  refine ⟨fun e he hb => ?_, fun hf hn => ?_, fun hf hn j hj hji => ?_⟩
  · have := List.all_eq_true.1 d1 e he
    simpa [hb] using this
  · have d2 := d2.resolve_left (by omega)
    rw [if_pos hn] at d2
    simp only [Bool.and_eq_true] at d2
    obtain ⟨⟨e1, e2⟩, e3⟩ := d2
    refine ⟨fun t ht => ?_, e2, fun j o' d ho' hj hfj hjn hdst hdst' => ?_⟩
    · have := List.all_eq_true.1 e1 t ht
      simpa using this
    · have hj' : j < ops.size := (Array.getElem?_eq_some_iff.1 ho').1
      have := List.all_eq_true.1 e3 j (List.mem_range.2 hj')
      have a1 : ¬ j < f := by omega
      have a2 : ¬ n ≤ j := by omega
      rw [ho'] at this
      simp [hj, hdst, hdst', a1, a2] at this
  · have d2 := d2.resolve_left (by omega)
    rw [if_neg (by omega)] at d2
    have := List.all_eq_true.1 d2 j (List.mem_range.2 hji)
    have a1 : ¬ j < f := by omega
    simpa [a1] using this

theorem anc_listedB (hD : mixOk ops f n = true) {listed : Array Bool} (hc : ∀ (i : Nat) (o : Oper), ops[i]? = some o → listed.getD i false = true → ∀ e ∈ o.after.toList, Region.binds .any e = true → listed.getD e.on false = true) :
    ∀ (i : Nat) (o : Oper), ops[i]? = some o → (∀ e ∈ o.after.toList, Region.binds .any e = true → listed.getD e.on false = true) → ∀ m ∈ anc ops i, m < i ∧ listed.getD m false = true := by
  intro i
  induction i using Nat.strongRecOn with
  | _ i ih =>
    intro o ho hl m hm
    have hlt := ((mixOk_spec hD).2.2.2.2 i o ho).1
    obtain ⟨e, e1, e2, e3⟩ := anc_mem ho hlt hm
    have h1 := hlt e e1 e2
    rcases e3 with rfl | e3
    · exact ⟨h1, hl e e1 e2⟩
    · have hi : i < ops.size := (Array.getElem?_eq_some_iff.1 ho).1
      have ho2 : ops[e.on]? = some ops[e.on] := Array.getElem?_eq_getElem (by omega)
      obtain ⟨q1, q2⟩ := ih e.on h1 _ ho2 (hc e.on _ ho2 (hl e e1 e2)) m e3
      exact ⟨by omega, q2⟩

inductive TrB (P : Program) (ops : Array Oper) (U : Nat → List Nat) : Nat → List Oper → St → St → Prop
  | nil {i : Nat} {st : St} : TrB P ops U i [] st st
  | step {i : Nat} {o : Oper} {r : List Oper} {st F : St} {pv : PV} : Sure P ops o (U i) st pv → nonroot st o.dst = true → TrB P ops U (i + 1) r (setD st o.dst pv) F → TrB P ops U i (o :: r) st F

theorem trB_facts {U : Nat → List Nat} : ∀ {i : Nat} {os : List Oper} {st F : St}, TrB P ops U i os st F → F.length = st.length ∧ (∀ t, (∀ o ∈ os, o.dst ≠ some t) → F.at t = st.at t) ∧
    ∀ (k : Nat) (o : Oper), os[k]? = some o → ∃ s pv, Sure P ops o (U (i + k)) s pv ∧ nonroot s o.dst = true ∧ s.length = st.length ∧ (∀ t, (∀ (j : Nat) (o' : Oper), j < k → os[j]? = some o' → o'.dst ≠ some t) → s.at t = st.at t) ∧
      ∀ t, (∀ (j : Nat) (o' : Oper), k < j → os[j]? = some o' → o'.dst ≠ some t) → (setD s o.dst pv).at t = F.at t := by
  intro i os st F h
  induction h with
  | nil => exact ⟨rfl, fun _ _ => rfl, fun k o hk => by simp at hk⟩
  | @step i o r st F pv hs hn ht ih =>
    obtain ⟨l1, l2, l3⟩ := ih
    refine ⟨by rw [l1, setD_len], fun t htt => ?_, fun k o' hk => ?_⟩
    · rw [l2 t fun o' ho' => htt o' (List.mem_cons_of_mem _ ho'), setD_at (htt o List.mem_cons_self)]
    · cases k with
      | zero =>
        simp only [List.getElem?_cons_zero, Option.some.injEq] at hk
        subst hk
        refine ⟨st, pv, hs, hn, rfl, fun _ _ => rfl, fun t htt => ?_⟩
        rw [l2 t fun o' ho' => ?_]
        obtain ⟨j, hj⟩ := List.mem_iff_getElem?.1 ho'
        exact htt (j + 1) o' (by omega) (by simpa using hj)
      | succ k =>
        simp only [List.getElem?_cons_succ] at hk
        obtain ⟨s, pv', q1, q2, q3, q4, q5⟩ := l3 k o' hk
        refine ⟨s, pv', by rw [show i + (k + 1) = i + 1 + k by omega]; exact q1, q2, by rw [q3, setD_len], fun t htt => ?_, fun t htt => ?_⟩
        · rw [q4 t fun j o2 hj ho2 => htt (j + 1) o2 (by omega) (by simpa using ho2), setD_at (htt 0 o (by omega) (by simp))]
        · exact q5 t fun j o2 hj ho2 => htt (j + 1) o2 (by omega) (by simpa using ho2)

/-- one operation of the head -/
theorem vhead_sure (hT : TabOk P T) {U : List Nat} {o : Oper} (hreads : ∀ t ∈ reads o, t ∉ U) (hguard : guardOkB ops U o = true) {st0 : St} {K : PV → St → Prop}
    (hv : @vguard st0 ops o ⟨fun run st => match run with
      | true => mentOk U st o = true ∧ nonroot st o.dst = true ∧ @vreadD P T st o ⟨fun pv => K pv st⟩
      | false => nonroot st o.dst = true ∧ K skipPV st⟩) : ∃ pv, Sure P ops o U st0 pv ∧ nonroot st0 o.dst = true ∧ K pv st0 := by
  have hgd : ∀ (st' : St), (∀ t, t ∉ U → st'.at t = st0.at t) → ∀ (j : Nat) (want : Bool) (d : Nat), o.guard = some (j, want) → (ops[j]?).bind (·.dst) = some d → st'.at d = st0.at d := fun st' hst j want d hg hd => hst d (by
    unfold guardOkB at hguard
    rw [hg] at hguard
    simp only [hd] at hguard
    simpa using hguard)
  obtain ⟨rn, h1, h2⟩ := vguard_spec hv
  cases rn with
  | true =>
    have hw : ∀ (st' : St) (L : Lay) (a : Act) (w : World), (∀ t, t ∉ U → st'.at t = st0.at t) → Rel L st' a w Free → Region.wanted o (yielded ops a.tmps) = true := fun st' L a w hag hrel => h2 st' L a w _ (hgd st' hag) hrel
    obtain ⟨hm, hn, hr⟩ := h1
    have hment : ∀ x ∈ o.op.operands.toList, ∀ g ∈ ments (ref st0 x), g ∉ U := fun x hx g hg => by
      have := List.all_eq_true.1 (List.all_eq_true.1 hm x hx) g hg
      simpa using this
    have fin : ∀ pv, (∀ st', (∀ t, t ∉ U → st'.at t = st0.at t) → nonroot st' o.dst = true → Does P o st' (· = setD st' o.dst pv)) → K pv st0 → ∃ pv, Sure P ops o U st0 pv ∧ nonroot st0 o.dst = true ∧ K pv st0 := by
      intro pv hdo hv'
      refine ⟨pv, fun st' h1 h2 L a w next Q hrel hk => ?_, hn, hv'⟩
      rw [if_pos (hw st' L a w h1 hrel)]
      exact .inl (hdo st' h1 h2 L a w next Q hrel fun st2 L' a' w' e s r' => by subst e; exact hk L' a' w' s r')
    unfold vreadD at hr
    split at hr
    · rename_i fop args ts hop
      split at hr
      · rename_i fid caps hf
        split at hr
        · rename_i cs ps b hcs hps
          obtain ⟨pv, hvc, hok, hv'⟩ := hr
          refine fin pv (fun st' h1 h2 => ?_) hv'
          have hargs : ∀ x ∈ args.toList, x ∈ o.op.operands.toList := fun x hx => by simp [hop, Op.operands, Call.operands]; exact .inr (by simpa using hx)
          have hfop : fop ∈ o.op.operands.toList := by simp [hop, Op.operands, Call.operands]
          have hag : ∀ t ∈ reads o, st'.at t = st0.at t := fun t ht => h1 t (hreads t ht)
          have hf' : ref st' fop = .fn fid caps := by rw [(ref_eq hag hfop).1, hf]
          have hcs' : lendCaps st' caps = some cs := by
            rw [lendCaps_eq caps fun g p hmem => h1 g (hment fop hfop g (by rw [hf]; exact ments_fn hmem)), hcs]
          have hps' : lendAll st' st' args.toList = some (ps, b) := by
            rw [lendAll_eq args.toList (fun x hx => (ref_eq hag (hargs x hx)).1) (fun x hx g hg => h1 g (hment x (hargs x hx) g hg)), hps]
          intro L a w next Q hrel hk
          exact does_call (fun _ _ _ _ _ h => h) hop hf' hcs' hps' hvc h2 (fun pv' e => by subst e; exact hok) L a w next Q hrel fun st2 L' a' w' ⟨pv', e1, e2⟩ s r' => by
            subst e1
            exact hk st2 L' a' w' e2 s r'
        · exact hr.elim
      · exact hr.elim
    · split at hr
      · rename_i out hp
        obtain ⟨hc, hcl, hv'⟩ := hr
        refine fin out.pv (fun st' h1 h2 => ?_) hv'
        have hag : ∀ t ∈ reads o, st'.at t = st0.at t := fun t ht => h1 t (hreads t ht)
        have h3 := pop_loc hp hcl hag
        have h4 : pop T st' st' o = some ⟨out.c, true, st', out.pv⟩ := by
          rw [pop_rt (rt := st0) (rt' := st') (fun x hx g hg => h1 g (hment x hx g (by rwa [(ref_eq hag hx).1] at hg))) hag]
          exact h3
        exact does_pop hT (fun _ _ _ _ _ h => h) h4 hc h2
      · exact hr.elim
  | false =>
    obtain ⟨hn, hv'⟩ := h1
    refine ⟨skipPV, fun st' h1' h2' L a w next Q hrel hk => ?_, hn, hv'⟩
    rw [if_neg (by rw [h2 st' L a w _ (hgd st' h1') hrel]; simp)]
    obtain ⟨L', s1, s2⟩ := skip_ok hrel h2'
    exact hk L' _ w s1 s2

theorem vmix_tr (hT : TabOk P T) (hD : mixOk ops f n = true) {K : St → Prop} : ∀ (os : List Oper) (i : Nat), ops.toList.drop i = os → f ≤ i → i ≤ n → ∀ {st : St}, vmix P T ops f n i os st K →
    ∃ F, TrB P ops (unavB ops f n) i (os.take (n - i)) st F ∧ vmix P T ops f n n (ops.toList.drop n) F K
  | [], i, hi, hfi, hin, st, hv => by
    refine ⟨st, by rw [List.take_nil]; exact .nil, ?_⟩
    have : ops.toList.drop n = [] := by
      have h1 : ops.size ≤ i := by simpa using hi
      simp; omega
    rw [this]
    simpa [vmix] using hv
  | o :: r, i, hi, hfi, hin, st, hv => by
    have ho : ops[i]? = some o := by
      have : (ops.toList.drop i)[0]? = some o := by rw [hi]; rfl
      rw [List.getElem?_drop] at this
      simpa using this
    by_cases hn : i < n
    · have hi' : ops.toList.drop (i + 1) = r := by rw [← List.drop_drop, hi]; rfl
      unfold vmix at hv
      rw [vs_b (by omega) hn] at hv
      obtain ⟨_, h2, _⟩ := (mixOk_spec hD).2.2.2.2 i o ho
      obtain ⟨h3, h4, _⟩ := h2 hfi hn
      obtain ⟨pv, q1, q2, q3⟩ := vhead_sure hT h3 h4 (K := fun pv st => vmix P T ops f n (i + 1) r (setD st o.dst pv) K) hv
      obtain ⟨F, f1, f2⟩ := vmix_tr hT hD r (i + 1) hi' (by omega) (by omega) q3
      refine ⟨F, ?_, f2⟩
      rw [show n - i = (n - (i + 1)) + 1 by omega, List.take_succ_cons]
      exact .step q1 q2 f1
    · obtain rfl : i = n := by omega
      refine ⟨st, by rw [Nat.sub_self, List.take_zero]; exact .nil, ?_⟩
      rw [hi]; exact hv

structure InvB (P : Program) (ops : Array Oper) (f n : Nat) (st F : St) (listed : Array Bool) (st' : St) : Prop where
  size : listed.size = ops.size
  closed : ∀ (i : Nat) (o : Oper), ops[i]? = some o → listed.getD i false = true → ∀ e ∈ o.after.toList, Region.binds .any e = true → listed.getD e.on false = true
  low : ∀ i, i < f → listed.getD i false = true
  high : ∀ i, n ≤ i → listed.getD i false = false
  len : st'.length = st.length
  old : ∀ t, (∀ (j : Nat) (o : Oper), f ≤ j → ops[j]? = some o → listed.getD j false = true → o.dst ≠ some t) → st'.at t = st.at t
  new : ∀ (j : Nat) (o : Oper) (t : Nat), f ≤ j → ops[j]? = some o → listed.getD j false = true → o.dst = some t → st'.at t = F.at t

theorem ready_iff {listed : Array Bool} {i : Nat} (hs : listed.size = ops.size) : i ∈ Region.ready .any ops listed ↔ ∃ o, ops[i]? = some o ∧ listed.getD i false = false ∧ ∀ e ∈ o.after.toList, Region.binds .any e = true → listed.getD e.on false = true := by
  rw [mem_ready]
  constructor
  · rintro ⟨h0, o, ho, h⟩
    have hi : i < listed.size := by rw [hs]; exact (Array.getElem?_eq_some_iff.1 ho).1
    refine ⟨o, ho, by simpa [Array.getD, hi] using h0, fun e he hb => h e (by simpa using he) hb⟩
  · rintro ⟨o, ho, h0, h⟩
    have hi : i < listed.size := by rw [hs]; exact (Array.getElem?_eq_some_iff.1 ho).1
    exact ⟨by simpa [Array.getD, hi] using h0, o, ho, fun e he hb => h e (by simpa using he) hb⟩

theorem getD_setB {listed : Array Bool} {i : Nat} (hi : i < listed.size) (k : Nat) : (listed.setIfInBounds i true).getD k false = if k = i then true else listed.getD k false := by
  simp only [Array.getD_eq_getD_getElem?, Array.getElem?_setIfInBounds]
  by_cases e : i = k
  · subst e; simp [hi]
  · have e' : ¬ k = i := fun h => e h.symm
    simp [e, e']

/-- the tail runs as it is listed -/
theorem tailB_ok (hT : TabOk P T) (hD : mixOk ops f n = true) {Q : Exit → Act → World → Prop} {L0 : Lay} {w0 : World} {K : St → Prop} (hQ : ∀ L st a w, Stp L0 L w0 w → Rel L st a w Free → K st → Q .normal a w) :
    ∀ (os : List Oper) (k : Nat), ops.toList.drop k = os → n ≤ k → ∀ (listed : Array Bool) (L : Lay) (st : St) (a : Act) (w : World), listed.size = ops.size → (∀ j, j < ops.size → listed.getD j false = decide (j < k)) → vmix P T ops f n k os st K → Rel L st a w Free → Stp L0 L w0 w → wpAny P .any ops Q os.length listed a w
  | [], k, hi, hk, listed, L, st, a, w, hs, hl, hv, hr, hst => by
    have hsz : ops.size ≤ k := by simpa using hi
    refine ⟨?_, hQ L st a w hst hr (by simpa [vmix] using hv)⟩
    rw [List.eq_nil_iff_forall_not_mem]
    intro i hi
    obtain ⟨o, ho, h1, _⟩ := (ready_iff hs).1 hi
    have hlt := (Array.getElem?_eq_some_iff.1 ho).1
    rw [hl i hlt] at h1
    have : i < k := by omega
    simp [this] at h1
  | o :: r, k, hi, hk, listed, L, st, a, w, hs, hl, hv, hr, hst => by
    have ho : ops[k]? = some o := by
      have : (ops.toList.drop k)[0]? = some o := by rw [hi]; rfl
      rw [List.getElem?_drop] at this
      simpa using this
    have hi' : ops.toList.drop (k + 1) = r := by rw [← List.drop_drop, hi]; rfl
    have hklt : k < ops.size := (Array.getElem?_eq_some_iff.1 ho).1
    obtain ⟨_, hfn, hns, _, hsp⟩ := mixOk_spec hD
    have hready : k ∈ Region.ready .any ops listed := (ready_iff hs).2 ⟨o, ho, by rw [hl k hklt]; simp, fun e he hb => by
      have := (hsp k o ho).1 e he hb
      rw [hl _ (by omega)]
      simpa using this⟩
    have honly : ∀ i ∈ Region.ready .any ops listed, i = k := by
      intro i hi
      obtain ⟨oi, hoi, h1, h2⟩ := (ready_iff hs).1 hi
      have hlt := (Array.getElem?_eq_some_iff.1 hoi).1
      rw [hl i hlt] at h1
      have hge : k ≤ i := by simpa using h1
      refine Classical.byContradiction fun hne => ?_
      have hkl : k < i := by omega
      have hm := (hsp i oi hoi).2.2 (by omega) (by omega) k (by omega) hkl
      have := (anc_listedB hD (fun i' o' ho' hl' e he hb => ?_) i oi hoi h2 k hm).2
      · rw [hl k hklt] at this; simp at this
      · have hlt' := (Array.getElem?_eq_some_iff.1 ho').1
        rw [hl i' hlt'] at hl'
        have h3 := (hsp i' o' ho').1 e he hb
        rw [hl _ (by omega)]
        have : i' < k := by simpa using hl'
        simp; omega
    have hl' : ∀ j, j < ops.size → (listed.setIfInBounds k true).getD j false = decide (j < k + 1) := by
      intro j hj
      rw [getD_setB (by omega), hl j hj]
      by_cases e : j = k
      · subst e; simp
      · rw [if_neg e]
        congr 1
        simp; omega
    refine ⟨fun h0 => (by rw [h0] at hready; cases hready), fun i hi => ?_⟩
    rw [honly i hi]
    unfold wpOp
    rw [ho]
    simp only
    unfold vmix at hv
    rw [vs_c (by omega) (by omega)] at hv
    have hg := vguard_ok hr hv
    cases hw : Region.wanted o (yielded ops a.tmps) with
    | true =>
      rw [hw] at hg
      simp only at hg
      rw [if_pos rfl]
      left
      refine vread_ok hT hg (fun st1 pv hK => hK.1) L a w _ _ hr fun st' L' a' w' ⟨st1, pv, hK, e⟩ hs' hr' => ?_
      subst e
      exact tailB_ok hT hD hQ r (k + 1) hi' (by omega) _ L' _ a' w' (by simp [hs]) hl' hK.2 hr' (hst.trans hs')
    | false =>
      rw [hw] at hg
      simp only at hg
      rw [if_neg (by simp)]
      obtain ⟨L', s1, s2⟩ := skip_ok hr hg.1
      exact tailB_ok hT hD hQ r (k + 1) hi' (by omega) _ L' _ _ w (by simp [hs]) hl' hg.2 s2 (hst.trans s1)

theorem anyB_ok (hT : TabOk P T) (hD : mixOk ops f n = true) {st F : St} (htr : TrB P ops (unavB ops f n) f ((ops.toList.drop f).take (n - f)) st F) {K : St → Prop} (hv : vmix P T ops f n n (ops.toList.drop n) F K) {Q : Exit → Act → World → Prop} {L0 : Lay} {w0 : World} (hQ : ∀ L st a w, Stp L0 L w0 w → Rel L st a w Free → K st → Q .normal a w) :
    ∀ (fuel : Nat) (listed : Array Bool) (L : Lay) (st' : St) (a : Act) (w : World), InvB P ops f n st F listed st' → cntU ops.size (fun i => !listed.getD i false) = fuel → Rel L st' a w Free → Stp L0 L w0 w → wpAny P .any ops Q fuel listed a w := by
  obtain ⟨hFl, hFo, hfacts⟩ := trB_facts htr
  obtain ⟨_, hfn, hns, _, hsp⟩ := mixOk_spec hD
  have hos : ∀ (k : Nat) (o : Oper), ((ops.toList.drop f).take (n - f))[k]? = some o ↔ k < n - f ∧ ops[f + k]? = some o := by
    intro k o
    rw [List.getElem?_take]
    by_cases h : k < n - f
    · rw [if_pos h, List.getElem?_drop]; simp [h]
    · rw [if_neg h]; simp [h]
  have hcnt0 : ∀ (m : Nat) (k : Nat), m ≤ ops.size → ∀ listed : Array Bool, (∀ j, j < ops.size → listed.getD j false = decide (j < k)) → cntU m (fun i => !listed.getD i false) = m - k := by
    intro m
    induction m with
    | zero => intro k _ listed _; simp [cntU]
    | succ m ih =>
      intro k hm listed hl
      simp only [cntU]
      rw [ih k (by omega) listed hl]
      simp only [hl m (by omega)]
      by_cases h : m < k
      · simp [h]; omega
      · simp [h]; omega
  have fin : ∀ (fuel : Nat) (listed : Array Bool) (L : Lay) (st' : St) (a : Act) (w : World), InvB P ops f n st F listed st' → cntU ops.size (fun i => !listed.getD i false) = fuel → (∀ j, j < n → listed.getD j false = true) → Rel L st' a w Free → Stp L0 L w0 w → wpAny P .any ops Q fuel listed a w := by
    intro fuel listed L st' a w hI hc hall hrel hs
    have hl : ∀ j, j < ops.size → listed.getD j false = decide (j < n) := by
      intro j hj
      by_cases h : j < n
      · rw [hall j h]; simp [h]
      · rw [hI.high j (by omega)]; simp [h]
    have hat : ∀ t, st'.at t = F.at t := by
      intro t
      by_cases hex : ∃ (j : Nat) (o : Oper), f ≤ j ∧ j < n ∧ ops[j]? = some o ∧ o.dst = some t
      · obtain ⟨j, o, hj, hjn, h1, h2⟩ := hex
        exact hI.new j o t hj h1 (hall j hjn) h2
      · rw [hI.old t fun j o hj h1 hl h2 => hex ⟨j, o, hj, Classical.byContradiction (fun h => by
          rw [hI.high j (by omega)] at hl
          cases hl), h1, h2⟩, hFo t fun o ho h2 => ?_]
        obtain ⟨j, hj⟩ := List.mem_iff_getElem?.1 ho
        obtain ⟨q1, q2⟩ := (hos j o).1 hj
        exact hex ⟨f + j, o, by omega, by omega, q2, h2⟩
    have e : st' = F := by
      apply List.ext_getElem
      · rw [hI.len, hFl]
      · intro t h1 h2
        have := hat t
        unfold St.at at this
        rw [List.getD_eq_getElem?_getD, List.getD_eq_getElem?_getD, List.getElem?_eq_getElem h1, List.getElem?_eq_getElem h2] at this
        exact this
    subst e
    have := tailB_ok hT hD hQ (ops.toList.drop n) n rfl (Nat.le_refl _) listed L st' a w hI.size hl hv hrel hs
    rw [← hc, hcnt0 ops.size n (Nat.le_refl _) listed hl]
    simpa using this
  intro fuel
  induction fuel with
  | zero =>
    intro listed L st' a w hI hc hrel hs
    exact fin 0 listed L st' a w hI hc (fun j hj => by simpa using cntU_zero _ hc j (by omega)) hrel hs
  | succ fuel ih =>
    intro listed L st' a w hI hc hrel hs
    by_cases hall : ∀ j, j < n → listed.getD j false = true
    · exact fin _ listed L st' a w hI hc hall hrel hs
    · have hsome : ∃ i, i ∈ Region.ready .any ops listed := by
        refine Classical.byContradiction fun hno => hall fun j => ?_
        induction j using Nat.strongRecOn with
        | _ j ihj =>
          intro hj
          cases hl : listed.getD j false with
          | true => rfl
          | false =>
            have ho : ops[j]? = some ops[j] := Array.getElem?_eq_getElem (by omega)
            refine absurd ⟨j, (ready_iff hI.size).2 ⟨_, ho, hl, fun e he hb => ?_⟩⟩ hno
            have := (hsp j _ ho).1 e he hb
            exact ihj e.on this (by omega)
      refine ⟨fun hr => ?_, fun i hi => ?_⟩
      · obtain ⟨i, hi⟩ := hsome
        rw [hr] at hi; cases hi
      · obtain ⟨o, ho, h1, h2⟩ := (ready_iff hI.size).1 hi
        have hi' : i < ops.size := (Array.getElem?_eq_some_iff.1 ho).1
        have hanc := anc_listedB hD hI.closed i o ho h2
        have hfi : f ≤ i := by
          refine Classical.byContradiction fun h => ?_
          rw [hI.low i (by omega)] at h1; cases h1
        have hin : i < n := by
          refine Classical.byContradiction fun h => hall fun j hj => ?_
          by_cases hjf : j < f
          · exact hI.low j hjf
          · exact (hanc j ((hsp i o ho).2.2 hfi (by omega) j (by omega) (by omega))).2
        obtain ⟨s, pv, f1, f2, f3, f4, f5⟩ := hfacts (i - f) o ((hos _ _).2 ⟨by omega, by rw [show f + (i - f) = i by omega]; exact ho⟩)
        rw [show f + (i - f) = i by omega] at f1
        have hspi := ((hsp i o ho).2.1 hfi hin).2.2
        have hag : ∀ t, t ∉ unavB ops f n i → st'.at t = s.at t := by
          intro t ht
          by_cases hex : ∃ (j : Nat) (o' : Oper), f ≤ j ∧ j < n ∧ ops[j]? = some o' ∧ o'.dst = some t
          · obtain ⟨j, o', gj, gn, g1, g2⟩ := hex
            have hj : j < ops.size := (Array.getElem?_eq_some_iff.1 g1).1
            have hja : j ∈ anc ops i := by
              refine Classical.byContradiction fun hn => ht ?_
              refine List.mem_filterMap.2 ⟨j, List.mem_range.2 hj, ?_⟩
              have hn' : (anc ops i).contains j = false := by simpa using hn
              have a1 : ¬ j < f := by omega
              have a2 : ¬ n ≤ j := by omega
              rw [hn', g1]
              simpa [a1, a2] using g2
            obtain ⟨q1, q2⟩ := hanc j hja
            have hspj := ((hsp j o' g1).2.1 gj gn).2.2
            rw [hI.new j o' t gj g1 q2 g2, ← f5 t fun k o2 hk ho2 => by
              obtain ⟨z1, z2⟩ := (hos k o2).1 ho2
              exact hspj (f + k) o2 t z2 (by omega) (by omega) (by omega) g2]
            exact setD_at (hspj i o t ho (by omega) hfi hin g2)
          · rw [hI.old t fun j o' gj g1 gl g2 => hex ⟨j, o', gj, Classical.byContradiction (fun h => by
              rw [hI.high j (by omega)] at gl
              cases gl), g1, g2⟩, f4 t fun j o' _ g1 g2 => by
              obtain ⟨z1, z2⟩ := (hos j o').1 g1
              exact hex ⟨f + j, o', by omega, by omega, z2, g2⟩]
        have hdst : ∀ d, o.dst = some d → st'.at d = st.at d ∧ s.at d = st.at d := fun d hd => ⟨hI.old d fun j o' gj g1 g2 g3 => by
          by_cases e : j = i
          · subst e; rw [h1] at g2; cases g2
          · exact hspi j o' d g1 e gj (Classical.byContradiction fun h => by
              rw [hI.high j (by omega)] at g2
              cases g2) hd g3, f4 d fun j o' hj g1 => by
          obtain ⟨z1, z2⟩ := (hos j o').1 g1
          exact hspi (f + j) o' d z2 (by omega) (by omega) (by omega) hd⟩
        have hnr : nonroot st' o.dst = true := by
          cases hd : o.dst with
          | none => rfl
          | some d =>
            rw [hd] at f2
            obtain ⟨q1, q2⟩ := hdst d hd
            simp only [nonroot] at f2 ⊢
            rw [q1, ← q2]; exact f2
        have hset := getD_setB (listed := listed) (i := i) (by rw [hI.size]; exact hi')
        have hw := f1 st' hag hnr L a w (wpAny P .any ops Q fuel (listed.setIfInBounds i true)) Q hrel fun L' a' w' hs' hr' => ?_
        · unfold wpOp
          rw [ho]
          exact hw
        · refine ih (listed.setIfInBounds i true) L' _ a' w' ⟨by rw [Array.size_setIfInBounds, hI.size], fun k o' hk hl e he hb => ?_, fun j hj => ?_, fun j hj => ?_, by rw [setD_len, hI.len], fun t ht => ?_, fun j o' t gj hj hl hd => ?_⟩ ?_ hr' (hs.trans hs')
          · rw [hset] at hl ⊢
            by_cases e1 : k = i
            · subst e1
              rw [ho] at hk
              obtain rfl := Option.some.inj hk
              rw [h2 e he hb]; simp
            · rw [if_neg e1] at hl
              rw [hI.closed k o' hk hl e he hb]; simp
          · rw [hset, hI.low j hj]; simp
          · rw [hset, if_neg (by omega)]; exact hI.high j hj
          · have hne : o.dst ≠ some t := ht i o hfi ho (by rw [hset, if_pos rfl])
            rw [setD_at hne]
            exact hI.old t fun j o' gj g1 g2 => ht j o' gj g1 (by rw [hset, g2]; simp)
          · by_cases e1 : j = i
            · subst e1
              rw [ho] at hj
              obtain rfl := Option.some.inj hj
              rw [← f5 t fun k o2 hk ho2 => by
                obtain ⟨z1, z2⟩ := (hos k o2).1 ho2
                exact hspi (f + k) o2 t z2 (by omega) (by omega) (by omega) hd]
              obtain ⟨q1, q2⟩ := hdst t hd
              rw [hd, setD_self (st' := st) hI.len (.inr trivial), setD_self (st' := st) f3 (.inr trivial), hI.len, f3, q1, q2]
            · rw [hset, if_neg e1] at hl
              rw [setD_at fun hdi => hspi j o' t hj e1 gj (by
                refine Classical.byContradiction fun h => ?_
                rw [hI.high j (by omega)] at hl
                cases hl) hdi hd]
              exact hI.new j o' t gj hj hl hd
          · have := cntU_flip ops.size (f := fun k => !listed.getD k false) (g := fun k => !(listed.setIfInBounds i true).getD k false) hi' (by simp only [h1]; rfl) (by simp only [hset]; simp) (fun j hj => by simp only [hset, if_neg hj])
            omega
end
end Go.Proofs.Yteeklekfafedcaa.V

/- Regions: one that runs as it is listed, and one that runs in any order. No condition. -/
import Derived.Test.YteeklekfafedcaaV15x
set_option linter.unusedVariables false
namespace Go.Proofs.Yteeklekfafedcaa.V
open Go Go.RowKit

def VW (P : Program) (c : Code) (st : St) (Q : Exit → St → Prop) : Prop :=
  ∀ (L : Lay) (a : Act) (w : World), Rel L st a w Free → c.wp P (fun e a' w' => ∃ L' st', Stp L L' w w' ∧ Rel L' st' a' w' Free ∧ Q e st') a w

def gval (st : St) (ops : Array Oper) (j : Nat) : Option (Option Bool) :=
  match (ops[j]?).bind (·.dst) with
  | none => some none
  | some d => match st.at d with
    | .v false .bool b => some (some b)
    | .root (.tup _) _ _ _ => some none
    | _ => none

/-- what follows, kept from the rewriter's eyes -/
class Hd (α : Type) where
  val : α
theorem hdv {α : Type} (x : α) : @Hd.val α ⟨x⟩ = x := rfl

/-- two roads -/
def vbranch (b want : Bool) [K1 : Hd Prop] [K2 : Hd (Unit → Prop)] : Prop := (b = want → K1.val) ∧ (b = (!want) → K2.val ())
theorem vbr {b want : Bool} {K1 : Prop} {K2 : Unit → Prop} (h1 : b = want → K1) (h2 : b = (!want) → K2 ()) : @vbranch b want ⟨K1⟩ ⟨K2⟩ := ⟨h1, h2⟩
theorem vb_tt {K1 : Prop} {K2 : Unit → Prop} : @vbranch true true ⟨K1⟩ ⟨K2⟩ = K1 := by simp [vbranch]
theorem vb_tf {K1 : Prop} {K2 : Unit → Prop} : @vbranch true false ⟨K1⟩ ⟨K2⟩ = K2 () := by simp [vbranch]
theorem vb_ft {K1 : Prop} {K2 : Unit → Prop} : @vbranch false true ⟨K1⟩ ⟨K2⟩ = K2 () := by simp [vbranch]
theorem vb_ff {K1 : Prop} {K2 : Unit → Prop} : @vbranch false false ⟨K1⟩ ⟨K2⟩ = K1 := by simp [vbranch]

def vguard (st : St) (ops : Array Oper) (o : Oper) [K : Hd (Bool → St → Prop)] : Prop :=
  match o.guard with
  | none => K.val true st
  | some (j, want) => match (ops[j]?).bind (·.dst) with
    | none => K.val false st
    | some d => match st.at d with
      | .v false .bool b => @vbranch b want ⟨K.val true (st.set d (.v false .bool want))⟩ ⟨fun _ => K.val false (st.set d (.v false .bool (!want)))⟩
      | .root (.tup _) _ _ _ => K.val false st
      | _ => False

/-- what is left of an operation that was not wanted -/
def skipPV : PV := .root (.tup []) .unit .fz ()

/-- a call: the arguments are read alone, or (X) one of them is handed over -/
def vcall (P : Program) (f : FuncId) (args : List PV) [K : Hd (PV → Prop)] [X : Hd Prop] : Prop := (∃ R, VC P f args R ∧ ∀ pv, R pv → K.val pv) ∨ X.val
theorem vcall_of {P : Program} {f : FuncId} {args : List PV} {K : PV → Prop} {X : Prop} {pv : PV} (h : VC P f args (· = pv)) (k : K pv) : @vcall P f args ⟨K⟩ ⟨X⟩ := .inl ⟨_, h, fun _ e => e ▸ k⟩
theorem vcall_ex {P : Program} {f : FuncId} {args : List PV} {K R : PV → Prop} {X : Prop} (h : VC P f args R) (k : ∀ pv, R pv → K pv) : @vcall P f args ⟨K⟩ ⟨X⟩ := .inl ⟨_, h, k⟩

/-- a call, the i-th argument handed over -/
def vxcall (P : Program) (f : FuncId) (ps : List PV) (i : Nat) [K : Hd (PV → PV → Prop)] : Prop := ∃ R, VX P f ps i R ∧ ∀ pv ot, R pv ot → K.val pv ot
theorem vxcall_ex {P : Program} {f : FuncId} {ps : List PV} {i : Nat} {R K : PV → PV → Prop} (h : VX P f ps i R) (k : ∀ pv ot, R pv ot → K pv ot) : @vxcall P f ps i ⟨K⟩ := ⟨_, h, k⟩
theorem vxcall_of {P : Program} {f : FuncId} {ps : List PV} {i : Nat} {K : PV → PV → Prop} {pv ot : PV} (h : VX P f ps i (fun a b => a = pv ∧ b = ot)) (k : K pv ot) : @vxcall P f ps i ⟨K⟩ := ⟨_, h, fun _ _ e => e.1 ▸ e.2 ▸ k⟩
def vxgo (P : Program) (st1 : St) (i : Nat) (pvi : PV) (fop : Operand) (args : List Operand) [K : Hd (Bool → PV → PV → Prop)] : Prop :=
  match ref st1 fop with
  | .fn f caps => match lendCaps st1 caps, lendX st1 pvi i args with
    | some cs, some (ps, b) => @vxcall P f (ps ++ cs.map capPV) i ⟨fun pv ot => K.val (b || caps.any isAdr) pv ot⟩
    | _, _ => False
  | _ => False
def vio (P : Program) (st : St) (fop : Operand) (args : List Operand) (dst : Option Tmp) (i : Nat) [K : Hd (St → PV → Prop)] : Prop :=
  match args[i]? with
  | none => False
  | some xo => match ref st xo with
    | .h agg g p => match look st g p with
      | some ⟨s, fl, x⟩ => match put st g p s .junk x hitS with
        | some st1 => @vxgo P st1 i (.root (.val agg) s fl x) fop args ⟨fun b pv ot => okRes b pv = true ∧ xback st1 g p (.val agg) s fl x b hitS ot fun st2 => nonroot st2 dst = true ∧ K.val st2 pv⟩
        | none => False
      | none => False
    | .adr g [] => match st.at g with
      | .root (.box t0) s fl x => match put st g [] s .junk x hit with
        | some st1 => @vxgo P ((st1.map (V.drop g)).set g .dead) i (.root (.box t0) s fl x) fop args ⟨fun b pv ot => okRes b pv = true ∧ xback st1 g [] (.box t0) s fl x b hit ot fun st2 => nonroot st2 dst = true ∧ K.val st2 pv⟩
        | none => False
      | .root (.ibox t0 b0) s fl x => match put st g [] s .junk x hit with
        | some st1 => @vxgo P ((st1.map (V.drop g)).set g .dead) i (.root (.box t0) s fl x) fop args ⟨fun b pv ot => okRes b pv = true ∧ xback st1 g [] (.box t0) s fl x b hit ot fun st2 => nonroot st2 dst = true ∧ K.val st2 pv⟩
        | none => False
      | _ => False
    | _ => False
def vmv (P : Program) (st : St) (fop : Operand) (args : List Operand) (dst : Option Tmp) (i : Nat) [K : Hd (St → PV → Prop)] : Prop :=
  match args[i]? with
  | none => False
  | some xo => match ref st xo with
    | .h agg g p => match take st g p with
      | some (⟨s, fl, x⟩, st1) => @vxgo P st1 i (.root (.val agg) s fl x) fop args ⟨fun b pv ot => okRes b pv = true ∧ nonroot st1 dst = true ∧ K.val st1 pv⟩
      | none => False
    | _ => False
def vxx (P : Program) (st : St) (fop : Operand) (args : List Operand) (dst : Option Tmp) (K : St → PV → Prop) : Prop := ∃ i, @vio P st fop args dst i ⟨K⟩ ∨ @vmv P st fop args dst i ⟨K⟩
theorem vcall_io {P : Program} {f : FuncId} {ps : List PV} {K0 : PV → Prop} {st : St} {fop : Operand} {args : List Operand} {dst : Option Tmp} {K : St → PV → Prop} (i : Nat) (h : @vio P st fop args dst i ⟨K⟩) : @vcall P f ps ⟨K0⟩ ⟨vxx P st fop args dst K⟩ := .inr ⟨i, .inl h⟩
theorem vcall_mv {P : Program} {f : FuncId} {ps : List PV} {K0 : PV → Prop} {st : St} {fop : Operand} {args : List Operand} {dst : Option Tmp} {K : St → PV → Prop} (i : Nat) (h : @vmv P st fop args dst i ⟨K⟩) : @vcall P f ps ⟨K0⟩ ⟨vxx P st fop args dst K⟩ := .inr ⟨i, .inr h⟩

def vread (P : Program) (T : List (Nat × TI)) (st : St) (o : Oper) [K : Hd (St → PV → Prop)] : Prop :=
  match o.op with
  | .call ⟨.value fop, args, _⟩ => match ref st fop with
    | .fn f caps => match lendCaps st caps, lendAll st st args.toList with
      | some cs, some (ps, b) => nonroot st o.dst = true ∧ @vcall P f (ps ++ cs.map capPV) ⟨fun pv => okRes (b || caps.any isAdr) pv = true ∧ K.val st pv⟩ ⟨vxx P st fop args.toList o.dst fun st2 pv => K.val st2 pv⟩
      | _, _ => False
    | _ => False
  | _ => match nilTest T st o with
    | some n => nonroot st o.dst = true ∧ ∀ b, (0 < n → b = false) → K.val st (.v false .bool b)
    | none => match pop T st st o with
      | some out => out.c = true ∧ K.val out.st out.pv
      | none => False

def vops (P : Program) (T : List (Nat × TI)) (ops : Array Oper) : List Oper → St → (St → Prop) → Prop
  | [], st, K => K st
  | o :: r, st0, K => @vguard st0 ops o ⟨fun run st => match run with
    | true => @vread P T st o ⟨fun st1 pv => nonroot st1 o.dst = true ∧ vops P T ops r (setD st1 o.dst pv) K⟩
    | false => nonroot st o.dst = true ∧ vops P T ops r (setD st o.dst skipPV) K⟩

section
variable {P : Program} {o : Oper} {L L1 : Lay} {st st1 : St} {a : Act} {w w' : World} {R : Nat → Prop} {T : List (Nat × TI)} {rt : St} {ops : Array Oper}

theorem gval_ok (h : Rel L st a w R) {j : Nat} {q : Option Bool} (hg : gval st ops j = some q) : yielded ops a.tmps j = q := by
  unfold gval at hg
  unfold yielded
  split at hg
  · rename_i hn
    obtain rfl := Option.some.inj hg
    rw [hn]; rfl
  · rename_i d hd
    rw [hd]
    simp only [Option.bind_some]
    have hlt : ∀ pv, st.at d = pv → pv ≠ .dead → d < a.tmps.size := fun pv e hne => by
      rw [h.size]
      rcases Nat.lt_or_ge d st.length with hl | hl
      · exact hl
      · rw [St.at_ge hl] at e; exact absurd e.symm hne
    split at hg
    · rename_i b hb
      obtain rfl := Option.some.inj hg
      have hl := hlt _ hb (by simp)
      have hv := h.orep (t := d) (by rw [hb]; rfl)
      rw [hb] at hv
      have := hv.bool
      rw [Array.getElem?_eq_getElem hl]
      have e : a.tmps.getD d undef = a.tmps[d] := by simp [Array.getD, hl]
      rw [e] at this
      rw [this]
    · rename_i aggs s f x hb
      obtain rfl := Option.some.inj hg
      have hl := hlt _ hb (by simp)
      obtain ⟨⟨r1, _⟩, _⟩ := h.root hb
      rw [Array.getElem?_eq_getElem hl]
      have e : a.tmps.getD d undef = a.tmps[d] := by simp [Array.getD, hl]
      rw [e] at r1
      rw [r1]
    · cases hg

theorem set_same {st : St} {d : Nat} {pv : PV} (h : st.at d = pv) : st.set d pv = st := by
  apply List.ext_getElem?
  intro i
  rw [List.getElem?_set]
  split
  · rename_i e
    subst e
    split
    · rename_i hl
      unfold St.at at h
      rw [List.getD_eq_getElem?_getD, List.getElem?_eq_getElem hl] at h
      rw [List.getElem?_eq_getElem hl, ← h]; rfl
    · rename_i hl; rw [List.getElem?_eq_none (by omega)]
  · rfl

theorem vguard_spec {K : Bool → St → Prop} (hk : @vguard st ops o ⟨K⟩) : ∃ run, K run st ∧ ∀ (st' : St) (L : Lay) (a : Act) (w : World) (R : Nat → Prop), (∀ (j : Nat) (want : Bool) (d : Nat), o.guard = some (j, want) → (ops[j]?).bind (·.dst) = some d → st'.at d = st.at d) → Rel L st' a w R → Region.wanted o (yielded ops a.tmps) = run := by
  unfold vguard at hk
  cases hg : o.guard with
  | none =>
    rw [hg] at hk
    exact ⟨true, hk, fun st' L a w R _ _ => by unfold Region.wanted; rw [hg]⟩
  | some q =>
    obtain ⟨j, want⟩ := q
    rw [hg] at hk
    simp only at hk
    have hw : ∀ (tmps : Array Value) (q : Option Bool), yielded ops tmps j = q → Region.wanted o (yielded ops tmps) = (q == some want) := fun tmps q hq => by unfold Region.wanted; rw [hg]; simp only; rw [hq]
    split at hk
    · rename_i hd
      refine ⟨false, hk, fun st' L a w R _ h => ?_⟩
      rw [hw _ none (gval_ok (st := st') h (by unfold gval; rw [hd]))]; rfl
    · rename_i d hd
      have hy : ∀ (st' : St) (L : Lay) (a : Act) (w : World) (R : Nat → Prop), st'.at d = st.at d → Rel L st' a w R → ∀ q, (match st.at d with | .v false .bool b => some (some b) | .root (.tup _) _ _ _ => some none | _ => none) = some q → yielded ops a.tmps j = q := fun st' L a w R he h q hq => gval_ok (st := st') h (by unfold gval; rw [hd]; simp only [he]; exact hq)
      split at hk
      · rename_i b hb
        by_cases e : b = want
        · have := hk.1 e
          rw [set_same (by rw [hb, e])] at this
          refine ⟨true, this, fun st' L a w R hag h => ?_⟩
          rw [hw _ (some b) (hy st' L a w R (hag j want d rfl hd) h (some b) (by rw [hb])), e]
          simp
        · have e2 : b = !want := by cases b <;> cases want <;> simp_all
          have := hk.2 e2
          rw [set_same (by rw [hb, e2])] at this
          refine ⟨false, this, fun st' L a w R hag h => ?_⟩
          rw [hw _ (some b) (hy st' L a w R (hag j want d rfl hd) h (some b) (by rw [hb]))]
          simp [e]
      · rename_i aggs s f x hb
        refine ⟨false, hk, fun st' L a w R hag h => ?_⟩
        rw [hw _ none (hy st' L a w R (hag j want d rfl hd) h none (by rw [hb]))]; rfl
      · exact hk.elim

theorem vguard_ok (h : Rel L st a w R) {K : Bool → St → Prop} (hk : @vguard st ops o ⟨K⟩) : K (Region.wanted o (yielded ops a.tmps)) st := by
  obtain ⟨run, h1, h2⟩ := vguard_spec hk
  rw [h2 st L a w R (fun _ _ _ _ _ => rfl) h]
  exact h1

theorem skip_ok (h : Rel L st a w Free) {d : Option Tmp} (hd : nonroot st d = true) : ∃ L', Stp L L' w w ∧ Rel L' (setD st d skipPV) (a.put d undef) w Free := by
  cases d with
  | none => exact ⟨L, Stp.refl _ _, h⟩
  | some d =>
    refine ⟨L.set d Free [] none, ⟨rfl, rfl, rfl, Nat.le_refl _, fun _ _ _ => rfl, rfl, fun t b hb => ?_⟩, h.setR (nonroot_spec hd d rfl) (k := .tup []) (s := .unit) (f := .fz) (x := ()) (B := Free) (Fd := Free) ⟨rfl, rfl, rfl⟩ (fun _ h => h) (fun A hA => by cases hA) rfl (fun b hb => hb.elim) (fun b hb => hb.elim)⟩
    simp only [Lay.set] at hb
    split at hb
    · exact hb.elim
    · exact .inl ⟨t, hb⟩

theorem vxx_ok {fop : Operand} {args : Array Operand} {ts : Array TypeId} {K : St → PV → Prop} (ho : o.op = .call ⟨.value fop, args, ts⟩) (hk : vxx P st fop args.toList o.dst K) : Does P o st (fun st' => ∃ st1 pv, K st1 pv ∧ st' = setD st1 o.dst pv) := by
  obtain ⟨i, hk | hk⟩ := hk
  · unfold vio at hk
    split at hk
    · exact hk.elim
    · rename_i xo hxo
      split at hk
      · rename_i agg g p hx
        split at hk
        · rename_i s fl x hl
          split at hk
          · rename_i st1 hj
            unfold vxgo at hk
            split at hk
            · rename_i f caps hf
              split at hk
              · rename_i cs ps b hcs hps
                obtain ⟨X, hv, hX⟩ := hk
                exact does_io ho hxo hx hl hj hf hcs hps hv hX
              · exact hk.elim
            · exact hk.elim
          · exact hk.elim
        · exact hk.elim
      · rename_i g hx
        have fin : ∀ {k : RK} {t0 : TypeId} {s : Sh} {fl : Fl} {x : s.ty}, st.at g = .root k s fl x → (k = .box t0 ∨ ∃ b0, k = .ibox t0 b0) → (match put st g [] s .junk x hit with
            | some st1 => @vxgo P ((st1.map (V.drop g)).set g .dead) i (.root (.box t0) s fl x) fop args.toList ⟨fun b pv ot => okRes b pv = true ∧ xback st1 g [] (.box t0) s fl x b hit ot fun st2 => nonroot st2 o.dst = true ∧ K st2 pv⟩
            | none => False) → Does P o st (fun st' => ∃ st1 pv, K st1 pv ∧ st' = setD st1 o.dst pv) := by
          intro k t0 s fl x hg hkk hk
          split at hk
          · rename_i st1 hj
            unfold vxgo at hk
            split at hk
            · rename_i f caps hf
              split at hk
              · rename_i cs ps b hcs hps
                obtain ⟨X, hv, hX⟩ := hk
                exact does_bx ho hxo hx hg hkk hj hf hcs hps hv hX
              · exact hk.elim
            · exact hk.elim
          · exact hk.elim
        split at hk
        · rename_i t0 s fl x hg
          exact fin hg (.inl rfl) hk
        · rename_i t0 b0 s fl x hg
          exact fin hg (.inr ⟨b0, rfl⟩) hk
        · exact hk.elim
      · exact hk.elim
  · unfold vmv at hk
    split at hk
    · exact hk.elim
    · rename_i xo hxo
      split at hk
      · rename_i agg g p hx
        split at hk
        · rename_i s fl x st1 hj
          unfold vxgo at hk
          split at hk
          · rename_i f caps hf
            split at hk
            · rename_i cs ps b hcs hps
              obtain ⟨X, hv, hX⟩ := hk
              exact does_mv ho hxo hx hj hf hcs hps hv hX
            · exact hk.elim
          · exact hk.elim
        · exact hk.elim
      · exact hk.elim

theorem vread_ok (hT : TabOk P T) {K : St → PV → Prop} (hk : @vread P T st o ⟨K⟩) (hd : ∀ st1 pv, K st1 pv → nonroot st1 o.dst = true) : Does P o st (fun st' => ∃ st1 pv, K st1 pv ∧ st' = setD st1 o.dst pv) := by
  have pop_case : (∃ out, pop T st st o = some out ∧ out.c = true ∧ K out.st out.pv) → Does P o st (fun st' => ∃ st1 pv, K st1 pv ∧ st' = setD st1 o.dst pv) := by
    rintro ⟨out, hp, hc, hK⟩ L a w next Q h hn
    exact does_pop hT (fun _ _ _ _ _ h => h) hp hc (hd _ _ hK) L a w next Q h fun st' L' a' w' e s r => hn st' L' a' w' ⟨_, _, hK, e⟩ s r
  unfold vread at hk
  split at hk
  · rename_i fop args ts ho
    split at hk
    · rename_i f caps hf
      split at hk
      · rename_i cs ps b hcs hps
        obtain ⟨hnr, ⟨R, hv, hR⟩ | hk⟩ := hk
        case inr => exact vxx_ok ho hk
        intro L a w next Q h hn
        exact does_call (fun _ _ _ _ _ h => h) ho hf hcs hps hv hnr (fun pv hpv => (hR pv hpv).1) L a w next Q h fun st' L' a' w' e s r => by
          obtain ⟨pv, hpv, e⟩ := e
          exact hn st' L' a' w' ⟨st, pv, (hR pv hpv).2, e⟩ s r
      · exact hk.elim
    · exact hk.elim
  · split at hk
    · rename_i n hn
      intro L a w next Q h hnx
      exact does_nil hT hn hk.1 L a w next Q h fun st' L' a' w' ⟨b, hb, e⟩ s r => hnx st' L' a' w' ⟨st, _, hk.2 b hb, e⟩ s r
    · split at hk
      · rename_i out hp
        exact pop_case ⟨out, hp, hk.1, hk.2⟩
      · exact hk.elim

theorem vops_ok (hT : TabOk P T) {K : St → Prop} {Q : Exit → Act → World → Prop} : ∀ (os : List Oper) (i : Nat), ops.toList.drop i = os → ∀ {L : Lay} {st : St} {a : Act} {w : World}, vops P T ops os st K → Rel L st a w Free → (∀ st' L' a' w', K st' → Stp L L' w w' → Rel L' st' a' w' Free → Q .normal a' w') → wpOps P ops Q (List.range' i os.length) a w
  | [], i, hi, L, st, a, w, hv, h, hk => by
    simp only [List.length_nil, List.range'_zero, wpOps]
    exact hk st L a w hv (Stp.refl _ _) h
  | o :: r, i, hi, L, st, a, w, hv, h, hk => by
    have ho : ops[i]? = some o := by
      have : (ops.toList.drop i)[0]? = some o := by rw [hi]; rfl
      rw [List.getElem?_drop] at this
      simpa using this
    have hi' : ops.toList.drop (i + 1) = r := by rw [← List.drop_drop, hi]; rfl
    simp only [List.length_cons, List.range'_succ, wpOps, ho]
    unfold vops at hv
    have hg := vguard_ok h hv
    cases hw : Region.wanted o (yielded ops a.tmps) with
    | true =>
      rw [hw] at hg
      simp only at hg
      rw [if_pos rfl]
      left
      refine vread_ok hT hg (fun st1 pv hK => hK.1) L a w _ _ h fun st' L' a' w' ⟨st1, pv, hK, e⟩ hs hr => ?_
      subst e
      exact vops_ok hT r (i + 1) hi' hK.2 hr fun st2 L2 a2 w2 k1 k2 k3 => hk st2 L2 a2 w2 k1 (hs.trans k2) k3
    | false =>
      rw [hw] at hg
      simp only at hg
      rw [if_neg (by simp)]
      obtain ⟨L', s1, s2⟩ := skip_ok h hg.1
      exact vops_ok hT r (i + 1) hi' hg.2 s2 fun st2 L2 a2 w2 k1 k2 k3 => hk st2 L2 a2 w2 k1 (s1.trans k2) k3

theorem VW.region (hT : TabOk P T) {id : Nat} {Q : Exit → St → Prop} (h : vops P T ops ops.toList st (Q .normal)) : VW P (.region id ops false) st Q := by
  intro L a w hr
  refine wp_region ?_
  have := vops_ok (Q := fun e a' w' => ∃ L' st', Stp L L' w w' ∧ Rel L' st' a' w' Free ∧ Q e st') hT ops.toList 0 (by simp) h hr fun st' L' a' w' k s r => ⟨L', st', s, r, k⟩
  rw [List.range_eq_range']
  simpa using this
end
end Go.Proofs.Yteeklekfafedcaa.V

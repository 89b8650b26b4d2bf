/- Texts A3 H1 H2 VT1 W1 K1 K2 K3 K4 Y1 K5 K6 K9 G1 in one. No condition. -/
import Derived.Test.YtoeblmcibheldaaDoorZScriptText2
import Derived.LoopN
import Derived.ChangeArms
import Derived.SizedLaws
import Derived.WideShapes
import Derived.ChangeShapes
import Derived.DataReads
import Derived.Laws.BytesArg
import Derived.Lib.ItoaNum
import Derived.Lib.ItoaLen
import Derived.Test.YtoeblmcibheldaaDoorProg
import Derived.KernelRfl
import Derived.Shelf.Strconv.Itoa0
import Derived.Shelf.Strconv.Itoa1
import Derived.Shelf.LaysM
import Derived.Shelf.Strconv.Itoa2
import Derived.Shelf.Strconv.Itoa3
import Derived.Lib.AppendIntMem
import Derived.Orders
set_option linter.unnecessarySimpa false
set_option linter.unusedSimpArgs false
set_option linter.unusedVariables false
section
section
/- Regions: one that runs as it is listed, and one that runs in any order. No condition. -/
namespace Go.Proofs.YtoeblmcibheldaaDoor.V
open Go Go.RowKit
def VW (P : Program) (c : Code) (st : St) (Q : Exit → St → Prop) : Prop :=
 ∀ (L : Lay) (a : Act) (w : World), Rel L st a w Free → c.wp P (fun e a' w' => ∃ L' st', Stp L L' w w' ∧ Rel L' st' a' w' Free ∧ Q e st') a w
def gval (st : St) (ops : Array Oper) (j : Nat) : Option (Option Bool) :=
 match (ops[j]?).bind (·.dst) with
 | none => some none
 | some d => match st.at d with
  | .v false .bool b => some (some b)
  | .root (.tup _) _ _ _ => some none
  | _ => none
/-- what follows, kept from the rewriter's eyes -/
class Hd (α : Type) where
 val : α
theorem hdv {α : Type} (x : α) : @Hd.val α ⟨x⟩ = x := rfl
/-- two roads -/
def vbranch (b want : Bool) [K1 : Hd Prop] [K2 : Hd (Unit → Prop)] : Prop := (b = want → K1.val) ∧ (b = (!want) → K2.val ())
theorem vbr {b want : Bool} {K1 : Prop} {K2 : Unit → Prop} (h1 : b = want → K1) (h2 : b = (!want) → K2 ()) : @vbranch b want ⟨K1⟩ ⟨K2⟩ := ⟨h1, h2⟩
theorem vb_tt {K1 : Prop} {K2 : Unit → Prop} : @vbranch true true ⟨K1⟩ ⟨K2⟩ = K1 := by simp [vbranch]
theorem vb_tf {K1 : Prop} {K2 : Unit → Prop} : @vbranch true false ⟨K1⟩ ⟨K2⟩ = K2 () := by simp [vbranch]
theorem vb_ft {K1 : Prop} {K2 : Unit → Prop} : @vbranch false true ⟨K1⟩ ⟨K2⟩ = K2 () := by simp [vbranch]
theorem vb_ff {K1 : Prop} {K2 : Unit → Prop} : @vbranch false false ⟨K1⟩ ⟨K2⟩ = K1 := by simp [vbranch]
def vguard (st : St) (ops : Array Oper) (o : Oper) [K : Hd (Bool → St → Prop)] : Prop :=
 match o.guard with
 | none => K.val true st
 | some (j, want) => match (ops[j]?).bind (·.dst) with
  | none => K.val false st
  | some d => match st.at d with
   | .v false .bool b => @vbranch b want ⟨K.val true (st.set d (.v false .bool want))⟩ ⟨fun _ => K.val false (st.set d (.v false .bool (!want)))⟩
   | .root (.tup _) _ _ _ => K.val false st
   | _ => False
/-- what is left of an operation that was not wanted -/
def skipPV : PV := .root (.tup []) .unit .fz ()
/-- a call: the arguments are read alone, or (X) one of them is handed over -/
def vcall (P : Program) (f : FuncId) (args : List PV) [K : Hd (PV → Prop)] [X : Hd Prop] : Prop := (∃ R, VC P f args R ∧ ∀ pv, R pv → K.val pv) ∨ X.val
theorem vcall_of {P : Program} {f : FuncId} {args : List PV} {K : PV → Prop} {X : Prop} {pv : PV} (h : VC P f args (· = pv)) (k : K pv) : @vcall P f args ⟨K⟩ ⟨X⟩ := .inl ⟨_, h, fun _ e => e ▸ k⟩
theorem vcall_ex {P : Program} {f : FuncId} {args : List PV} {K R : PV → Prop} {X : Prop} (h : VC P f args R) (k : ∀ pv, R pv → K pv) : @vcall P f args ⟨K⟩ ⟨X⟩ := .inl ⟨_, h, k⟩
/-- a call, the i-th argument handed over -/
def vxcall (P : Program) (f : FuncId) (ps : List PV) (i : Nat) [K : Hd (PV → PV → Prop)] : Prop := ∃ R, VX P f ps i R ∧ ∀ pv ot, R pv ot → K.val pv ot
def vxgo (P : Program) (st1 : St) (i : Nat) (pvi : PV) (fop : Operand) (args : List Operand) [K : Hd (Bool → PV → PV → Prop)] : Prop :=
 match ref st1 fop with
 | .fn f caps => match lendCaps st1 caps, lendX st1 pvi i args with
  | some cs, some (ps, b) => @vxcall P f (ps ++ cs.map capPV) i ⟨fun pv ot => K.val (b || caps.any isAdr) pv ot⟩
  | _, _ => False
 | _ => False
def vio (P : Program) (st : St) (fop : Operand) (args : List Operand) (dst : Option Tmp) (i : Nat) [K : Hd (St → PV → Prop)] : Prop :=
 match args[i]? with
 | none => False
 | some xo => match ref st xo with
  | .h agg g p => match look st g p with
   | some ⟨s, fl, x⟩ => match put st g p s .junk x hitS with
    | some st1 => @vxgo P st1 i (.root (.val agg) s fl x) fop args ⟨fun b pv ot => okRes b pv = true ∧ xback st1 g p (.val agg) s fl x b hitS ot fun st2 => nonroot st2 dst = true ∧ K.val st2 pv⟩
    | none => False
   | none => False
  | .adr g [] => match st.at g with
   | .root (.box t0) s fl x => match put st g [] s .junk x hit with
    | some st1 => @vxgo P ((st1.map (V.drop g)).set g .dead) i (.root (.box t0) s fl x) fop args ⟨fun b pv ot => okRes b pv = true ∧ xback st1 g [] (.box t0) s fl x b hit ot fun st2 => nonroot st2 dst = true ∧ K.val st2 pv⟩
    | none => False
   | .root (.ibox t0 b0) s fl x => match put st g [] s .junk x hit with
    | some st1 => @vxgo P ((st1.map (V.drop g)).set g .dead) i (.root (.box t0) s fl x) fop args ⟨fun b pv ot => okRes b pv = true ∧ xback st1 g [] (.box t0) s fl x b hit ot fun st2 => nonroot st2 dst = true ∧ K.val st2 pv⟩
    | none => False
   | _ => False
  | _ => False
def vmv (P : Program) (st : St) (fop : Operand) (args : List Operand) (dst : Option Tmp) (i : Nat) [K : Hd (St → PV → Prop)] : Prop :=
 match args[i]? with
 | none => False
 | some xo => match ref st xo with
  | .h agg g p => match take st g p with
   | some (⟨s, fl, x⟩, st1) => @vxgo P st1 i (.root (.val agg) s fl x) fop args ⟨fun b pv ot => okRes b pv = true ∧ nonroot st1 dst = true ∧ K.val st1 pv⟩
   | none => False
  | _ => False
def vxx (P : Program) (st : St) (fop : Operand) (args : List Operand) (dst : Option Tmp) (K : St → PV → Prop) : Prop := ∃ i, @vio P st fop args dst i ⟨K⟩ ∨ @vmv P st fop args dst i ⟨K⟩
/-- an operation that a lemma of its own tells -/
def vhook (P : Program) (st : St) (o : Oper) [K : Hd (St → PV → Prop)] : Prop := Does P o st (fun st' => ∃ st1 pv, K.val st1 pv ∧ st' = setD st1 o.dst pv)
theorem vhook_of {P : Program} {st st1 : St} {o : Oper} {K : St → PV → Prop} {pv : PV} (h : Does P o st (· = setD st1 o.dst pv)) (k : K st1 pv) : @vhook P st o ⟨K⟩ := fun L a w next Q hr hn => h L a w next Q hr fun st' L' a' w' e s r => hn st' L' a' w' ⟨st1, pv, k, e⟩ s r
/-- an operation that reads alone -/
theorem Does.pure {P : Program} {st : St} {o : Oper} {pv : PV} (hd : nonroot st o.dst = true) (hp : pv.isRoot = false) (h : ∀ (L : Lay) (a : Act) (w : World), Rel L st a w Free → ∃ v, (execOp a.eval o).run P w = .ok (.value v) w ∧ ORep L st w pv v) : Does P o st (· = setD st o.dst pv) := by
 intro L a w next Q hr hn
 obtain ⟨v, e1, e4⟩ := h L a w hr
 have e5 := hn _ L (a.put o.dst v) w rfl (Stp.refl _ _)
 unfold Oper.wp
 rw [e1]
 refine e5 ?_
 cases hd' : o.dst with
 | none => exact hr
 | some d => exact hr.setO (nonroot_spec hd d hd') hp e4
def vread (P : Program) (T : List (Nat × TI)) (st : St) (o : Oper) [K : Hd (St → PV → Prop)] : Prop :=
 match o.op with
 | .call ⟨.value fop, args, _⟩ => match ref st fop with
  | .fn f caps => match lendCaps st caps, lendAll st st args.toList with
   | some cs, some (ps, b) => nonroot st o.dst = true ∧ @vcall P f (ps ++ cs.map capPV) ⟨fun pv => okRes (b || caps.any isAdr) pv = true ∧ K.val st pv⟩ ⟨vxx P st fop args.toList o.dst fun st2 pv => K.val st2 pv⟩
   | _, _ => False
  | _ => False
 | _ => match nilTest T st o with
  | some n => nonroot st o.dst = true ∧ ∀ b, (0 < n → b = false) → K.val st (.v false .bool b)
  | none => match pop T st st o with
   | some out => out.c = true ∧ K.val out.st out.pv
   | none => @vhook P st o ⟨fun st1 pv => K.val st1 pv⟩
def vops (P : Program) (T : List (Nat × TI)) (ops : Array Oper) : List Oper → St → (St → Prop) → Prop
 | [], st, K => K st
 | o :: r, st0, K => @vguard st0 ops o ⟨fun run st => match run with
  | true => @vread P T st o ⟨fun st1 pv => nonroot st1 o.dst = true ∧ vops P T ops r (setD st1 o.dst pv) K⟩
  | false => nonroot st o.dst = true ∧ vops P T ops r (setD st o.dst skipPV) K⟩
section
variable {P : Program} {o : Oper} {L L1 : Lay} {st st1 : St} {a : Act} {w w' : World} {R : Nat → Prop} {T : List (Nat × TI)} {rt : St} {ops : Array Oper}
theorem gval_ok (h : Rel L st a w R) {j : Nat} {q : Option Bool} (hg : gval st ops j = some q) : yielded ops a.tmps j = q := by
 unfold gval at hg
 unfold yielded
 split at hg
 ·rename_i hn
  obtain rfl := Option.some.inj hg
  rw [hn]; rfl
 ·rename_i d hd
  rw [hd]
  simp only [Option.bind_some]
  have hlt : ∀ pv, st.at d = pv → pv ≠ .dead → d < a.tmps.size := fun pv e hne => by
   rw [h.size]
   rcases Nat.lt_or_ge d st.length with hl | hl
   ·exact hl
   ·rw [St.at_ge hl] at e; exact absurd e.symm hne
  split at hg
  ·rename_i b hb
   obtain rfl := Option.some.inj hg
   have hl := hlt _ hb (by simp)
   have hv := h.orep (t := d) (by rw [hb]; rfl)
   rw [hb] at hv
   have := hv.bool
   rw [Array.getElem?_eq_getElem hl]
   have e : a.tmps.getD d undef = a.tmps[d] := by simp [Array.getD, hl]
   rw [e] at this
   rw [this]
  ·rename_i aggs s f x hb
   obtain rfl := Option.some.inj hg
   have hl := hlt _ hb (by simp)
   obtain ⟨⟨r1, _⟩, _⟩ := h.root hb
   rw [Array.getElem?_eq_getElem hl]
   have e : a.tmps.getD d undef = a.tmps[d] := by simp [Array.getD, hl]
   rw [e] at r1
   rw [r1]
  ·cases hg
theorem set_same {st : St} {d : Nat} {pv : PV} (h : st.at d = pv) : st.set d pv = st := by
 apply List.ext_getElem?
 intro i
 rw [List.getElem?_set]
 split
 ·rename_i e
  subst e
  split
  ·rename_i hl
   unfold St.at at h
   rw [List.getD_eq_getElem?_getD, List.getElem?_eq_getElem hl] at h
   rw [List.getElem?_eq_getElem hl, ← h]; rfl
  ·rename_i hl; rw [List.getElem?_eq_none (by omega)]
 ·rfl
theorem vguard_spec {K : Bool → St → Prop} (hk : @vguard st ops o ⟨K⟩) : ∃ run, K run st ∧ ∀ (st' : St) (L : Lay) (a : Act) (w : World) (R : Nat → Prop), (∀ (j : Nat) (want : Bool) (d : Nat), o.guard = some (j, want) → (ops[j]?).bind (·.dst) = some d → st'.at d = st.at d) → Rel L st' a w R → Region.wanted o (yielded ops a.tmps) = run := by
 unfold vguard at hk
 cases hg : o.guard with
 | none =>
  rw [hg] at hk
  exact ⟨true, hk, fun st' L a w R _ _ => by unfold Region.wanted; rw [hg]⟩
 | some q =>
  obtain ⟨j, want⟩ := q
  rw [hg] at hk
  simp only at hk
  have hw : ∀ (tmps : Array Value) (q : Option Bool), yielded ops tmps j = q → Region.wanted o (yielded ops tmps) = (q == some want) := fun tmps q hq => by unfold Region.wanted; rw [hg]; simp only; rw [hq]
  split at hk
  ·rename_i hd
   refine ⟨false, hk, fun st' L a w R _ h => ?_⟩
   rw [hw _ none (gval_ok (st := st') h (by unfold gval; rw [hd]))]; rfl
  ·rename_i d hd
   have hy : ∀ (st' : St) (L : Lay) (a : Act) (w : World) (R : Nat → Prop), st'.at d = st.at d → Rel L st' a w R → ∀ q, (match st.at d with | .v false .bool b => some (some b) | .root (.tup _) _ _ _ => some none | _ => none) = some q → yielded ops a.tmps j = q := fun st' L a w R he h q hq => gval_ok (st := st') h (by unfold gval; rw [hd]; simp only [he]; exact hq)
   split at hk
   ·rename_i b hb
    by_cases e : b = want
    ·have := hk.1 e
     rw [set_same (by rw [hb, e])] at this
     refine ⟨true, this, fun st' L a w R hag h => ?_⟩
     rw [hw _ (some b) (hy st' L a w R (hag j want d rfl hd) h (some b) (by rw [hb])), e]
     simp
    ·have e2 : b = !want := by cases b <;> cases want <;> simp_all
     have := hk.2 e2
     rw [set_same (by rw [hb, e2])] at this
     refine ⟨false, this, fun st' L a w R hag h => ?_⟩
     rw [hw _ (some b) (hy st' L a w R (hag j want d rfl hd) h (some b) (by rw [hb]))]
     simp [e]
   ·rename_i aggs s f x hb
    refine ⟨false, hk, fun st' L a w R hag h => ?_⟩
    rw [hw _ none (hy st' L a w R (hag j want d rfl hd) h none (by rw [hb]))]; rfl
   ·exact hk.elim
theorem vguard_ok (h : Rel L st a w R) {K : Bool → St → Prop} (hk : @vguard st ops o ⟨K⟩) : K (Region.wanted o (yielded ops a.tmps)) st := by
 obtain ⟨run, h1, h2⟩ := vguard_spec hk
 rw [h2 st L a w R (fun _ _ _ _ _ => rfl) h]
 exact h1
theorem skip_ok (h : Rel L st a w Free) {d : Option Tmp} (hd : nonroot st d = true) : ∃ L', Stp L L' w w ∧ Rel L' (setD st d skipPV) (a.put d undef) w Free := by
 cases d with
 | none => exact ⟨L, Stp.refl _ _, h⟩
 | some d =>
  refine ⟨L.set d Free [] none, ⟨rfl, rfl, rfl, Nat.le_refl _, fun _ _ _ => rfl, rfl, fun t b hb => ?_⟩, h.setR (nonroot_spec hd d rfl) (k := .tup []) (s := .unit) (f := .fz) (x := ()) (B := Free) (Fd := Free) ⟨rfl, rfl, rfl⟩ (fun _ h => h) (fun A hA => by cases hA) rfl (fun b hb => hb.elim) (fun b hb => hb.elim)⟩
  simp only [Lay.set] at hb
  split at hb
  ·exact hb.elim
  ·exact .inl ⟨t, hb⟩
theorem vxx_ok {fop : Operand} {args : Array Operand} {ts : Array TypeId} {K : St → PV → Prop} (ho : o.op = .call ⟨.value fop, args, ts⟩) (hk : vxx P st fop args.toList o.dst K) : Does P o st (fun st' => ∃ st1 pv, K st1 pv ∧ st' = setD st1 o.dst pv) := by
 obtain ⟨i, hk | hk⟩ := hk
 ·unfold vio at hk
  split at hk
  ·exact hk.elim
  ·rename_i xo hxo
   split at hk
   ·rename_i agg g p hx
    split at hk
    ·rename_i s fl x hl
     split at hk
     ·rename_i st1 hj
      unfold vxgo at hk
      split at hk
      ·rename_i f caps hf
       split at hk
       ·rename_i cs ps b hcs hps
        obtain ⟨X, hv, hX⟩ := hk
        exact does_io ho hxo hx hl hj hf hcs hps hv hX
       ·exact hk.elim
      ·exact hk.elim
     ·exact hk.elim
    ·exact hk.elim
   ·rename_i g hx
    have fin : ∀ {k : RK} {t0 : TypeId} {s : Sh} {fl : Fl} {x : s.ty}, st.at g = .root k s fl x → (k = .box t0 ∨ ∃ b0, k = .ibox t0 b0) → (match put st g [] s .junk x hit with
      | some st1 => @vxgo P ((st1.map (V.drop g)).set g .dead) i (.root (.box t0) s fl x) fop args.toList ⟨fun b pv ot => okRes b pv = true ∧ xback st1 g [] (.box t0) s fl x b hit ot fun st2 => nonroot st2 o.dst = true ∧ K st2 pv⟩
      | none => False) → Does P o st (fun st' => ∃ st1 pv, K st1 pv ∧ st' = setD st1 o.dst pv) := by
     intro k t0 s fl x hg hkk hk
     split at hk
     ·rename_i st1 hj
      unfold vxgo at hk
      split at hk
      ·rename_i f caps hf
       split at hk
       ·rename_i cs ps b hcs hps
        obtain ⟨X, hv, hX⟩ := hk
        exact does_bx ho hxo hx hg hkk hj hf hcs hps hv hX
       ·exact hk.elim
      ·exact hk.elim
     ·exact hk.elim
    split at hk
    ·rename_i t0 s fl x hg
     exact fin hg (.inl rfl) hk
    ·rename_i t0 b0 s fl x hg
     exact fin hg (.inr ⟨b0, rfl⟩) hk
    ·exact hk.elim
   ·exact hk.elim
 ·unfold vmv at hk
  split at hk
  ·exact hk.elim
  ·rename_i xo hxo
   split at hk
   ·rename_i agg g p hx
    split at hk
    ·rename_i s fl x st1 hj
     unfold vxgo at hk
     split at hk
     ·rename_i f caps hf
      split at hk
      ·rename_i cs ps b hcs hps
       obtain ⟨X, hv, hX⟩ := hk
       exact does_mv ho hxo hx hj hf hcs hps hv hX
      ·exact hk.elim
     ·exact hk.elim
    ·exact hk.elim
   ·exact hk.elim
theorem vread_ok (hT : TabOk P T) {K : St → PV → Prop} (hk : @vread P T st o ⟨K⟩) (hd : ∀ st1 pv, K st1 pv → nonroot st1 o.dst = true) : Does P o st (fun st' => ∃ st1 pv, K st1 pv ∧ st' = setD st1 o.dst pv) := by
 have pop_case : (∃ out, pop T st st o = some out ∧ out.c = true ∧ K out.st out.pv) → Does P o st (fun st' => ∃ st1 pv, K st1 pv ∧ st' = setD st1 o.dst pv) := by
  rintro ⟨out, hp, hc, hK⟩ L a w next Q h hn
  exact does_pop hT (fun _ _ _ _ _ h => h) hp hc (hd _ _ hK) L a w next Q h fun st' L' a' w' e s r => hn st' L' a' w' ⟨_, _, hK, e⟩ s r
 unfold vread at hk
 split at hk
 ·rename_i fop args ts ho
  split at hk
  ·rename_i f caps hf
   split at hk
   ·rename_i cs ps b hcs hps
    obtain ⟨hnr, ⟨R, hv, hR⟩ | hk⟩ := hk
    case inr => exact vxx_ok ho hk
    intro L a w next Q h hn
    exact does_call (fun _ _ _ _ _ h => h) ho hf hcs hps hv hnr (fun pv hpv => (hR pv hpv).1) L a w next Q h fun st' L' a' w' e s r => by
     obtain ⟨pv, hpv, e⟩ := e
     exact hn st' L' a' w' ⟨st, pv, (hR pv hpv).2, e⟩ s r
   ·exact hk.elim
  ·exact hk.elim
 ·split at hk
  ·rename_i n hn
   intro L a w next Q h hnx
   exact does_nil hT hn hk.1 L a w next Q h fun st' L' a' w' ⟨b, hb, e⟩ s r => hnx st' L' a' w' ⟨st, _, hk.2 b hb, e⟩ s r
  ·split at hk
   ·rename_i out hp
    exact pop_case ⟨out, hp, hk.1, hk.2⟩
   ·exact hk
theorem vops_ok (hT : TabOk P T) {K : St → Prop} {Q : Exit → Act → World → Prop} : ∀ (os : List Oper) (i : Nat), ops.toList.drop i = os → ∀ {L : Lay} {st : St} {a : Act} {w : World}, vops P T ops os st K → Rel L st a w Free → (∀ st' L' a' w', K st' → Stp L L' w w' → Rel L' st' a' w' Free → Q .normal a' w') → wpOps P ops Q (List.range' i os.length) a w
 | [], i, hi, L, st, a, w, hv, h, hk => by
  simp only [List.length_nil, List.range'_zero, wpOps]
  exact hk st L a w hv (Stp.refl _ _) h
 | o :: r, i, hi, L, st, a, w, hv, h, hk => by
  have ho : ops[i]? = some o := by
   have : (ops.toList.drop i)[0]? = some o := by rw [hi]; rfl
   rw [List.getElem?_drop] at this
   simpa using this
  have hi' : ops.toList.drop (i + 1) = r := by rw [← List.drop_drop, hi]; rfl
  simp only [List.length_cons, List.range'_succ, wpOps, ho]
  unfold vops at hv
  have hg := vguard_ok h hv
  cases hw : Region.wanted o (yielded ops a.tmps) with
  | true =>
   rw [hw] at hg
   simp only at hg
   rw [if_pos rfl]
   left
   refine vread_ok hT hg (fun st1 pv hK => hK.1) L a w _ _ h fun st' L' a' w' ⟨st1, pv, hK, e⟩ hs hr => ?_
   subst e
   exact vops_ok hT r (i + 1) hi' hK.2 hr fun st2 L2 a2 w2 k1 k2 k3 => hk st2 L2 a2 w2 k1 (hs.trans k2) k3
  | false =>
   rw [hw] at hg
   simp only at hg
   rw [if_neg (by simp)]
   obtain ⟨L', s1, s2⟩ := skip_ok h hg.1
   exact vops_ok hT r (i + 1) hi' hg.2 s2 fun st2 L2 a2 w2 k1 k2 k3 => hk st2 L2 a2 w2 k1 (s1.trans k2) k3
theorem VW.region (hT : TabOk P T) {id : Nat} {Q : Exit → St → Prop} (h : vops P T ops ops.toList st (Q .normal)) : VW P (.region id ops false) st Q := by
 intro L a w hr
 refine wp_region ?_
 have := vops_ok (Q := fun e a' w' => ∃ L' st', Stp L L' w w' ∧ Rel L' st' a' w' Free ∧ Q e st') hT ops.toList 0 (by simp) h hr fun st' L' a' w' k s r => ⟨L', st', s, r, k⟩
 rw [List.range_eq_range']
 simpa using this
end
end Go.Proofs.YtoeblmcibheldaaDoor.V
end
section
/- Control flow, the state made plain at the head of a loop, and a function's own law. No condition. -/
namespace Go.Proofs.YtoeblmcibheldaaDoor.V
open Go Go.RowKit
/-- what one state tells, the other tells too -/
def Weak (st st' : St) : Prop := ∀ (L : Lay) (a : Act) (w : World), Rel L st a w Free → ∃ L', Stp L L' w w ∧ Rel L' st' a w Free
theorem Weak.refl (st : St) : Weak st st := fun L a w h => ⟨L, Stp.refl _ _, h⟩
theorem Weak.trans {a b c : St} (h : Weak a b) (k : Weak b c) : Weak a c := fun L x w hr => by
 obtain ⟨L1, s1, r1⟩ := h L x w hr
 obtain ⟨L2, s2, r2⟩ := k L1 x w r1
 exact ⟨L2, s1.trans s2, r2⟩
def capOut (ks : List Nat) : Cap → Bool
 | .adr g _ => !ks.contains g
 | .fadr .. => false
def usesOut (ks : List Nat) : PV → Bool
 | .h _ g _ => !ks.contains g
 | .adr g _ => !ks.contains g
 | .fn _ caps => caps.any (capOut ks)
 | _ => false
def keepAt (ks : List Nat) (st : St) (t : Nat) : PV := if ks.contains t && !usesOut ks (st.at t) then st.at t else .dead
def keepGo (ks : List Nat) : Nat → St → St
 | _, [] => []
 | i, pv :: r => (if ks.contains i && !usesOut ks pv then pv else .dead) :: keepGo ks (i + 1) r
def keepS (ks : List Nat) (st : St) : St := keepGo ks 0 st
theorem keepGo_len (ks : List Nat) : ∀ (st : St) (i : Nat), (keepGo ks i st).length = st.length
 | [], _ => rfl
 | pv :: r, i => by simp only [keepGo, List.length_cons, keepGo_len ks r]
theorem keepGo_get (ks : List Nat) : ∀ (st : St) (i t : Nat), (keepGo ks i st)[t]? = (st[t]?).map fun pv => if ks.contains (i + t) && !usesOut ks pv then pv else .dead
 | [], _, t => by simp [keepGo]
 | pv :: r, i, 0 => by simp [keepGo]
 | pv :: r, i, t + 1 => by
  simp only [keepGo, List.getElem?_cons_succ, keepGo_get ks r]
  rw [show i + 1 + t = i + (t + 1) by omega]
theorem keepS_len (ks : List Nat) (st : St) : (keepS ks st).length = st.length := keepGo_len ks st 0
theorem keepS_at (ks : List Nat) (st : St) (t : Nat) : (keepS ks st).at t = keepAt ks st t := by
 unfold keepS St.at keepAt
 rw [List.getD_eq_getElem?_getD, keepGo_get, Nat.zero_add]
 by_cases h : t < st.length
 ·rw [List.getElem?_eq_getElem h]
  have e : st.at t = st[t] := by unfold St.at; rw [List.getD_eq_getElem?_getD, List.getElem?_eq_getElem h]; rfl
  rw [e]; rfl
 ·rw [List.getElem?_eq_none (by omega), St.at_ge (by omega)]
  simp
theorem weak_keep (ks : List Nat) (st : St) : Weak st (keepS ks st) := by
 intro L a w h
 refine ⟨L, Stp.refl _ _, ⟨?_, h.defers, h.zlt, h.flt, h.dj, h.rlt, h.rdj, fun t ht => ?_⟩⟩
 ·rw [h.size, keepS_len]
 ·have ht' : t < st.length := by rwa [keepS_len] at ht
  rw [keepS_at]
  unfold keepAt
  split
  ·rename_i hk
   simp only [Bool.and_eq_true, Bool.not_eq_true'] at hk
   have h1 := h.tmp t ht'
   rcases PV.root_or (st.at t) with ⟨k, s, f, x, hp⟩ | hp
   ·rw [hp] at h1 ⊢; exact h1
   ·rw [PVRep.of hp] at h1 ⊢
    have hpl : ∀ {g : Nat} {p : Path} {s1 : Sh} {cs1 : List Value} {ad1 : Option Addr}, ks.contains g = true → Place L st w g p s1 cs1 ad1 → Place L (keepS ks st) w g p s1 cs1 ad1 := by
     intro g p s1 cs1 ad1 hg ⟨k', s', f', x', e1, e2, e3, e4⟩
     refine ⟨k', s', f', x', ?_, e2, e3, e4⟩
     rw [keepS_at]
     unfold keepAt
     rw [e1]
     have hg' : g ∈ ks := by simpa using hg
     simp [hg', usesOut]
    refine ORep.places (fun _ h => h) (fun _ _ => rfl) (fun agg g p e s1 cs1 ad1 q1 q2 q3 => ?_) (fun g p e s1 cs1 A q1 => ?_) h1
    ·refine ⟨s1, cs1, ad1, hpl ?_ q1, q2, q3⟩
     have := hk.2
     rw [e] at this
     simpa [usesOut] using this
    ·refine ⟨cs1, hpl ?_ q1⟩
     have := hk.2
     rcases e with e | ⟨f', caps, e, hm⟩
     ·rw [e] at this; simpa [usesOut] using this
     ·rw [e] at this
      simp only [usesOut, List.any_eq_false] at this
      have := this _ hm
      simpa [capOut] using this
  ·trivial
def renC (g d : Nat) : Cap → Cap
 | .adr g' p => .adr (if g' = g then d else g') p
 | c => c
def ren (g d : Nat) : PV → PV
 | .h a g' p => .h a (if g' = g then d else g') p
 | .adr g' p => .adr (if g' = g then d else g') p
 | .fn f caps => .fn f (caps.map (renC g d))
 | pv => pv
theorem ren_root {g d : Nat} {pv : PV} (h : pv.isRoot = false) : (ren g d pv).isRoot = false := by cases pv <;> first | rfl | cases h
/-- root g moves to slot d -/
def moveTo (st : St) (g d : Nat) (r : PV) : St := ((st.map (ren g d)).set g .dead).set d r
theorem moveTo_at {st : St} {g d : Nat} {r : PV} (hd : d < st.length) (t : Nat) : (moveTo st g d r).at t = if t = d then r else if t = g then .dead else ren g d (st.at t) := by
 unfold moveTo
 rw [St.at_set, List.length_set, List.length_map]
 by_cases h : t = d
 ·rw [if_pos ⟨h, hd⟩, if_pos h]
 ·rw [if_neg (fun e => h e.1), if_neg h, St.at_set, List.length_map]
  by_cases hg : t = g
  ·rw [if_pos hg]
   by_cases hl : g < st.length
   ·rw [if_pos ⟨hg, hl⟩]
   ·rw [if_neg (fun e => hl e.2), St.at_map (by rfl), hg, St.at_ge (by omega)]; rfl
  ·rw [if_neg (fun e => hg e.1), if_neg hg, St.at_map (by rfl)]
theorem weak_move {st : St} {g d : Nat} {k : RK} {s : Sh} {f : Fl} {x : s.ty} (hg : st.at g = .root k s f x) (hne : g ≠ d) (hdr : (st.at d).isRoot = false) (hdl : d < st.length)
  (hv : ∀ (L : Lay) (w : World) (v0 v : Value), RootAt w k s v0 (L.C g) (L.D g) → ORep L st w (st.at d) v → RootAt w k s v (L.C g) (L.D g)) : Weak st (moveTo st g d (.root k s f x)) := by
 intro L a w h
 let L' : Lay := ⟨L.Z, fun t => if t = d then L.F g else if t = g then Free else L.F t, fun t => if t = d then L.C g else L.C t, fun t => if t = d then L.D g else L.D t⟩
 have hF : ∀ t b, L'.F t b → ∃ t', L.F t' b ∧ (t = d → t' = g) ∧ (t ≠ d → t' = t ∧ t ≠ g) := by
  intro t b hb
  simp only [L'] at hb
  split at hb
  ·rename_i e; exact ⟨g, hb, fun _ => rfl, fun e2 => absurd e e2⟩
  ·rename_i e
   split at hb
   ·exact hb.elim
   ·rename_i e2; exact ⟨t, hb, fun e3 => absurd e3 e, fun _ => ⟨rfl, e2⟩⟩
 have hpl : ∀ {g' : Nat} {p : Path} {s1 : Sh} {cs1 : List Value} {ad1 : Option Addr}, Place L st w g' p s1 cs1 ad1 → Place L' (moveTo st g d (.root k s f x)) w (if g' = g then d else g') p s1 cs1 ad1 := by
  intro g' p s1 cs1 ad1 ⟨k', s', f', x', e1, e2, e3, e4⟩
  by_cases hgg : g' = g
  ·subst hgg
   rw [hg] at e1
   rw [if_pos rfl]
   cases e1
   refine ⟨k, s, f, x, by rw [moveTo_at hdl, if_pos rfl], e2, e3, ?_⟩
   show sub w s (if d = d then L.C g' else _) (if d = d then L.D g' else _) p = _
   rw [if_pos rfl, if_pos rfl]; exact e4
  ·rw [if_neg hgg]
   have hgd : g' ≠ d := fun e => by rw [e] at e1; rw [e1] at hdr; cases hdr
   refine ⟨k', s', f', x', by rw [moveTo_at hdl, if_neg hgd, if_neg hgg, e1]; rfl, e2, e3, ?_⟩
   show sub w s' (if g' = d then _ else L.C g') (if g' = d then _ else L.D g') p = _
   rw [if_neg hgd, if_neg hgd]; exact e4
 refine ⟨L', ⟨rfl, rfl, rfl, Nat.le_refl _, fun _ _ _ => rfl, rfl, fun t b hb => .inl (by obtain ⟨t', q, _⟩ := hF t b hb; exact ⟨t', q⟩)⟩, ⟨?_, h.defers, h.zlt, fun t b hb => ?_, fun t t' b hb hb' => ?_, fun b hb => hb.elim, fun t b _ hb => hb, fun t ht => ?_⟩⟩
 ·rw [h.size]; simp [moveTo]
 ·obtain ⟨t', q, _⟩ := hF t b hb; exact h.flt t' b q
 ·obtain ⟨u, q1, q2, q3⟩ := hF t b hb
  obtain ⟨u', q1', q2', q3'⟩ := hF t' b hb'
  have huu := h.dj u u' b q1 q1'
  by_cases e1 : t = d <;> by_cases e2 : t' = d
  ·omega
  ·have := q2 e1; have := q3' e2; omega
  ·have := q3 e1; have := q2' e2; omega
  ·have := q3 e1; have := q3' e2; omega
 ·have ht' : t < st.length := by simpa [moveTo] using ht
  rw [moveTo_at hdl]
  by_cases e1 : t = d
  ·subst e1
   rw [if_pos rfl]
   obtain ⟨r1, B, r2, r3, r4⟩ := h.root hg
   have hC : L'.C t = L.C g := by simp [L']
   have hD : L'.D t = L.D g := by simp [L']
   have hFt : L'.F t = L.F g := by simp [L']
   refine ⟨?_, B, ?_, ?_, ?_⟩
   ·rw [hC, hD]; exact hv L w _ _ r1 (h.orep hdr)
   ·rw [hFt]; exact r2
   ·rw [hD, hFt]; exact r3
   ·rw [hC]; exact r4
  ·rw [if_neg e1]
   by_cases e2 : t = g
   ·rw [if_pos e2]; trivial
   ·rw [if_neg e2]
    have h1 := h.tmp t ht'
    have hC : L'.C t = L.C t := by simp [L', e1]
    have hD : L'.D t = L.D t := by simp [L', e1]
    have hFt : L'.F t = L.F t := by simp [L', e1, e2]
    rcases PV.root_or (st.at t) with ⟨k', s', f', x', hp⟩ | hp
    ·rw [hp] at h1 ⊢
     obtain ⟨q1, B, q2, q3, q4⟩ := h1
     show RRep L' w t k' s' f' x' _
     refine ⟨by rw [hC, hD]; exact q1, B, by rw [hFt]; exact q2, by rw [hD, hFt]; exact q3, by rw [hC]; exact q4⟩
    ·rw [PVRep.of hp] at h1
     rw [PVRep.of (ren_root hp)]
     cases hpv : st.at t with
     | dead => trivial
     | v agg s' x' => rw [hpv] at h1; exact h1
     | emp => rw [hpv] at h1; exact h1
     | fadr s' x' => rw [hpv] at h1; exact h1
     | h agg g' p =>
      rw [hpv] at h1
      obtain ⟨s1, cs1, ad1, q1, q2, q3⟩ := h1
      exact ⟨s1, cs1, ad1, hpl q1, q2, q3⟩
     | adr g' p =>
      rw [hpv] at h1
      obtain ⟨s1, cs1, A, q1, q2⟩ := h1
      exact ⟨s1, cs1, A, hpl q1, q2⟩
     | fn f' caps =>
      rw [hpv] at h1
      obtain ⟨vs, q1, q2, q3⟩ := h1
      refine ⟨vs, q1, by simpa using q2, fun i c u hc hu => ?_⟩
      rw [List.getElem?_map] at hc
      obtain ⟨c0, hc0, rfl⟩ := Option.map_eq_some_iff.1 hc
      have := q3 i c0 u hc0 hu
      cases c0 with
      | adr g' p =>
       obtain ⟨s1, cs1, A, m1, m2⟩ := this
       exact ⟨s1, cs1, A, hpl m1, m2⟩
      | fadr s' x' => exact this
     | root => rw [hpv] at hp; cases hp
theorem weak_emp {st : St} {d : Nat} (hd : st.at d = .emp) (e : TypeId) (s : Sh) : Weak st (st.set d (.root (.val false) (.sl e s) .own [])) := by
 intro L a w h
 have hdl : d < st.length := by
  rcases Nat.lt_or_ge d st.length with h1 | h1
  ·exact h1
  ·rw [St.at_ge h1] at hd; cases hd
 have hv := h.orep (t := d) (by rw [hd]; rfl)
 rw [hd] at hv
 obtain ⟨A, hv⟩ := hv
 have := h.setR (d := d) (by rw [hd]; rfl) (k := .val false) (s := .sl e s) (f := .own) (x := []) (v := a.tmps.getD d undef) (cs := [a.tmps.getD d undef]) (ad := none) (B := Free) (Fd := Free) (R' := Free) ⟨rfl, fun _ => rfl, rfl⟩ (fun _ h => h) (fun A hA => by cases hA) (.inl ⟨A, by rw [hv], rfl⟩) (fun b hb => hb.elim) (fun b hb => hb.elim)
 have e1 : a.put (some d) (a.tmps.getD d undef) = a := by
  have hda : d < a.tmps.size := by rw [h.size]; exact hdl
  unfold Act.put
  simp only
  congr 1
  apply Array.ext_getElem?
  intro i
  rw [Array.getElem?_setIfInBounds]
  split
  ·rename_i hi; subst hi; simp [hda]
  ·rfl
 rw [e1] at this
 refine ⟨L.set d Free [a.tmps.getD d undef] none, ⟨rfl, rfl, rfl, Nat.le_refl _, fun _ _ _ => rfl, rfl, fun t b hb => ?_⟩, this⟩
 simp only [Lay.set] at hb
 split at hb
 ·exact hb.elim
 ·exact .inl ⟨t, hb⟩
def homeOne (st : St) (d : Nat) (em : Option (TypeId × Sh)) : St :=
 match st.at d with
 | .h agg g [] => match st.at g with
  | .root (.val agg') s f x => if agg = agg' ∧ g ≠ d then moveTo st g d (.root (.val agg') s f x) else st
  | _ => st
 | .adr g [] => match st.at g with
  | .root (.box t) s f x => if g ≠ d then moveTo st g d (.root (.box t) s f x) else st
  | _ => st
 | .emp => match em with
  | some (e, s) => st.set d (.root (.val false) (.sl e s) .own [])
  | none => st
 | _ => st
theorem weak_home (st : St) (d : Nat) (em : Option (TypeId × Sh)) : Weak st (homeOne st d em) := by
 unfold homeOne
 have hlt : ∀ pv, st.at d = pv → pv ≠ .dead → d < st.length := fun pv e hne => by
  rcases Nat.lt_or_ge d st.length with hl | hl
  ·exact hl
  ·rw [St.at_ge hl] at e; exact absurd e.symm hne
 split
 ·rename_i agg g hd
  split
  ·rename_i agg' s f x hg
   split
   ·rename_i hc
    obtain ⟨rfl, hne⟩ := hc
    refine weak_move hg hne (by rw [hd]; rfl) (hlt _ hd (by simp)) fun L w v0 v h1 h2 => ?_
    rw [hd] at h2
    obtain ⟨s1, cs1, ad1, ⟨k', s', f', x', e1, e2, e3, e4⟩, q2, q3⟩ := h2
    rw [sub_nil] at e4
    obtain ⟨rfl, rfl⟩ := Prod.mk.inj (Option.some.inj e4)
    exact ⟨q2, h1.2.1, h1.2.2⟩
   ·exact Weak.refl _
  ·exact Weak.refl _
 ·rename_i g hd
  split
  ·rename_i t s f x hg
   split
   ·rename_i hne
    refine weak_move hg hne (by rw [hd]; rfl) (hlt _ hd (by simp)) fun L w v0 v h1 h2 => ?_
    rw [hd] at h2
    obtain ⟨s1, cs1, A, ⟨k', s', f', x', e1, e2, e3, e4⟩, q2⟩ := h2
    rw [sub_nil] at e4
    obtain ⟨rfl, e5⟩ := Prod.mk.inj (Option.some.inj e4)
    obtain ⟨b, m1, m2, m3⟩ := h1
    rw [m3] at e5
    obtain rfl := Option.some.inj e5
    exact ⟨b, q2, m2, m3⟩
   ·exact Weak.refl _
  ·exact Weak.refl _
 ·rename_i hd
  split
  ·exact weak_emp hd _ _
  ·exact Weak.refl _
 ·exact Weak.refl _
/-- the state at the head of a loop: the slots that live, each root at home -/
def norm (ks : List (Nat × Option (TypeId × Sh))) (st : St) : St := keepS (ks.map (·.1)) (ks.foldl (fun st k => homeOne st k.1 k.2) st)
theorem weak_norm (ks : List (Nat × Option (TypeId × Sh))) (st : St) : Weak st (norm ks st) := by
 refine Weak.trans ?_ (weak_keep _ _)
 generalize ks = l
 induction l generalizing st with
 | nil => exact Weak.refl _
 | cons k l ih => exact (weak_home st k.1 k.2).trans (ih _)
section
variable {P : Program} {st : St} {Q : Exit → St → Prop}
theorem VW.mono {c : Code} {Q' : Exit → St → Prop} (h : VW P c st Q) (k : ∀ e s, Q e s → Q' e s) : VW P c st Q' := fun L a w hr => wp_mono (h L a w hr) fun e a' w' ⟨L', st', s, r, q⟩ => ⟨L', st', s, r, k _ _ q⟩
theorem VW.weak {c : Code} {st' : St} (hw : Weak st st') (h : VW P c st' Q) : VW P c st Q := fun L a w hr => by
 obtain ⟨L', s', r'⟩ := hw L a w hr
 exact wp_mono (h L' a w r') fun e a' w' ⟨L2, st2, s, r, q⟩ => ⟨L2, st2, s'.trans s, r, q⟩
theorem VW.skip (h : Q .normal st) : VW P .skip st Q := fun L a w hr => wp_skip ⟨L, st, Stp.refl _ _, hr, h⟩
theorem VW.exit {id : Nat} (h : Q (.exit id) st) : VW P (.exit id) st Q := fun L a w hr => wp_exit ⟨L, st, Stp.refl _ _, hr, h⟩
theorem VW.ret (h : Q .ret st) : VW P .ret st Q := fun L a w hr => wp_ret ⟨L, st, Stp.refl _ _, hr, h⟩
/-- what follows -/
def vthen (P : Program) (y : Code) (Q : Exit → St → Prop) : Exit → St → Prop
 | .normal, st => VW P y st Q
 | e, st => Q e st
theorem vthen_n {y : Code} (h : VW P y st Q) : vthen P y Q .normal st := h
theorem VW.seq {x y : Code} (h : VW P x st (vthen P y Q)) : VW P (.seq x y) st Q := fun L a w hr => by
 refine wp_seq (wp_mono (h L a w hr) fun e a' w' ⟨L', st', s, r, q⟩ => ?_)
 cases e with
 | normal => exact wp_mono (q L' a' w' r) fun e2 a2 w2 ⟨L2, st2, s2, r2, q2⟩ => ⟨L2, st2, s.trans s2, r2, q2⟩
 | _ => exact ⟨L', st', s, r, q⟩
theorem VW.cond {c : Operand} {x y : Code} {b : Bool} (hc : ev st c = .v false .bool b) (ht : b = true → VW P x st Q) (hf : b = false → VW P y st Q) : VW P (.cond c x y) st Q := fun L a w hr =>
 wp_cond_split (ev_bool hr hc) (fun e => ht e L a w hr) (fun e => hf e L a w hr)
def vblock (id : Nat) (Q : Exit → St → Prop) : Exit → St → Prop
 | .exit id', st => if id' = id then Q .normal st else Q (.exit id') st
 | e, st => Q e st
theorem VW.block {id : Nat} {c : Code} (h : VW P c st (vblock id Q)) : VW P (.block id c) st Q := fun L a w hr => by
 refine wp_block (wp_mono (h L a w hr) fun e a' w' ⟨L', st', s, r, q⟩ => ?_)
 cases e with
 | exit id' =>
  simp only [vblock] at q
  simp only [Exit.inBlock]
  split
  ·rename_i e; rw [if_pos e] at q; exact ⟨L', st', s, r, q⟩
  ·rename_i e; rw [if_neg e] at q; exact ⟨L', st', s, r, q⟩
 | _ => exact ⟨L', st', s, r, q⟩
def vround {α : Type} (ks : List (Nat × Option (TypeId × Sh))) (head : α → St) (inv : α → Prop) (μ : α → Nat) (Q : Exit → St → Prop) (p : α) : Exit → St → Prop
 | .normal, st => ∃ p', inv p' ∧ norm ks st = head p' ∧ μ p' < μ p
 | e, st => Q e st
theorem VW.loop {α : Type} {c : Code} (ks : List (Nat × Option (TypeId × Sh))) (head : α → St) (inv : α → Prop) (μ : α → Nat) (h0 : ∃ p, inv p ∧ norm ks st = head p) (round : ∀ p, inv p → VW P c (head p) (vround ks head inv μ Q p)) : VW P (.loop c) st Q := by
 have key : ∀ n p, inv p → μ p < n → ∀ L a w, Rel L (head p) a w Free → ∀ L0 w0, Stp L0 L w0 w → Code.rounds P c (fun e a' w' => ∃ L' st', Stp L0 L' w0 w' ∧ Rel L' st' a' w' Free ∧ Q e st') n a w := by
  intro n
  induction n with
  | zero => intro p _ hn; omega
  | succ n ih =>
   intro p hp hn L a w hr L0 w0 hs
   rw [rounds_succ]
   refine wp_mono (round p hp L a w hr) fun e a' w' ⟨L', st', s, r, q⟩ => ?_
   cases e with
   | normal =>
    obtain ⟨p', q1, q2, q3⟩ := q
    obtain ⟨L2, s2, r2⟩ := weak_norm ks st' L' a' w' r
    rw [q2] at r2
    exact ih p' q1 (by omega) L2 a' w' r2 L0 w0 ((hs.trans s).trans s2)
   | _ => exact ⟨L', st', hs.trans s, r, q⟩
 intro L a w hr
 obtain ⟨p, hp, e⟩ := h0
 obtain ⟨L1, s1, r1⟩ := weak_norm ks st L a w hr
 rw [e] at r1
 exact wp_loop_rounds (μ p + 1) (key _ p hp (Nat.lt_succ_self _) L1 a w r1 L w s1)
end
end Go.Proofs.YtoeblmcibheldaaDoor.V
end
section
/- The table of types: checked by running. No condition. -/
namespace Go.Proofs.YtoeblmcibheldaaDoor.V
open Go Go.RowKit
def zB : List Value → List Value → Bool
 | [], [] => true
 | .int k n :: r, .int k' n' :: r' => decide (k = k') && decide (n = n') && zB r r'
 | .bool b :: r, .bool b' :: r' => decide (b = b') && zB r r'
 | .string b :: r, .string b' :: r' => decide (b.size = 0) && decide (b'.size = 0) && zB r r'
 | .slice none 0 0 :: r, .slice none 0 0 :: r' => zB r r'
 | _, _ => false
theorem bytes_empty {b : ByteArray} (h : b.size = 0) : b = ByteArray.empty := by
 obtain ⟨d⟩ := b
 have : d = #[] := Array.eq_empty_of_size_eq_zero h
 subst this; rfl
theorem zB_eq : ∀ (a b : List Value), zB a b = true → a = b := by
 intro a
 induction a with
 | nil => intro b h; cases b with
  | nil => rfl
  | cons => simp [zB] at h
 | cons v r ih =>
  intro b h
  unfold zB at h
  split at h
  ·rename_i e; cases e
  ·rename_i e
   simp only [Bool.and_eq_true, decide_eq_true_eq] at h
   obtain ⟨⟨rfl, rfl⟩, h⟩ := h
   cases e
   rw [ih _ h]
  ·rename_i e
   simp only [Bool.and_eq_true, decide_eq_true_eq] at h
   obtain ⟨rfl, h⟩ := h
   cases e
   rw [ih _ h]
  ·rename_i e
   simp only [Bool.and_eq_true, decide_eq_true_eq] at h
   obtain ⟨⟨h1, h2⟩, h⟩ := h
   cases e
   rw [ih _ h, bytes_empty h1, bytes_empty h2]
  ·rename_i e
   cases e
   rw [ih _ h]
  ·cases h
def fieldB (P : Program) (i : TI) (fs : Array Field) (n : Nat) : Bool :=
 match fs[n]?, i.fs[n]?, fieldAt i.sh n i.nf with
 | some f, some (agg1, s1), some (o, s2) => decide (s1 = s2) && decide (f.offset = o) && (match P.info? f.type with | some fi => decide (fi.size = s1.size) | none => false) && decide (0 < s1.size) && decide (isAggT P f.type = agg1) && (P.underlying f.type).isSome && (agg1 || decide (s1.size = 1))
 | _, _, _ => false
def leafB (P : Program) (f : Field) (s : Sh) (o : Nat) : Bool :=
 decide (f.offset = o) && decide (f.name ≠ "_") && !isAggT P f.type && (match s, P.underlying f.type with
  | .int k, some (.int k') => decide (k = k')
  | .bool, some .bool => true
  | .str, some .string => true
  | _, _ => false)
def flatB (P : Program) : List Field → Sh → Nat → Bool
 | [f], s, o => leafB P f s o
 | f :: g :: r, .pr s b, o => leafB P f s o && flatB P (g :: r) b (o + 1)
 | _, _, _ => false
def tokB (P : Program) (t : Nat) (i : TI) : Bool :=
 (i.agg || !i.sh.isPr) && (match P.info? t with
  | some ti => decide (ti.size = i.sh.size) && decide (ti.bytes = i.bytes) && (match ti.zero with | some z => zB z.cells.toList i.sh.encZ | none => false)
  | none => false) && decide (0 < i.sh.size) && decide (isAggT P t = i.agg) && (P.underlying t).isSome && (i.agg || decide (i.sh.size = 1)) &&
 (!i.agg || (match P.underlying t with | some (.struct fs) => decide (fs.size = i.nf) && (List.range i.nf).all (fieldB P i fs) && (!i.cmp || (flatB P fs.toList i.sh 0 && !P.stoodInHeld t && !P.eqGuardType P.depth t)) | _ => false)) &&
 (i.agg || (match i.sh, P.underlying t with
  | .int k, some (.int k') => decide (k = k')
  | .str, some .string => true
  | .bool, some .bool => true
  | .sl e s, some (.slice e') => decide (e = e') && (match P.info? e with
   | some ti => decide (ti.size = s.size) && decide (0 < s.size) && (match ti.zero with | some z => zB z.cells.toList s.encZ | none => false)
   | none => false)
  | _, _ => false))
theorem leafB_ok {P : Program} {f : Field} {s : Sh} {o : Nat} (h : leafB P f s o = true) : f.offset = o ∧ f.name ≠ "_" ∧ isAggT P f.type = false ∧ ((∃ k, s = .int k ∧ P.underlying f.type = some (.int k)) ∨ (s = .bool ∧ P.underlying f.type = some .bool) ∨ (s = .str ∧ P.underlying f.type = some .string)) := by
 simp only [leafB, Bool.and_eq_true, decide_eq_true_eq, Bool.not_eq_true'] at h
 obtain ⟨⟨⟨h1, h2⟩, h3⟩, h4⟩ := h
 refine ⟨h1, h2, h3, ?_⟩
 split at h4
 ·rename_i k k' hu
  simp only [decide_eq_true_eq] at h4
  subst h4
  exact .inl ⟨k, rfl, hu⟩
 ·rename_i hu; exact .inr (.inl ⟨rfl, hu⟩)
 ·rename_i hu; exact .inr (.inr ⟨rfl, hu⟩)
 ·cases h4
theorem flatB_ok {P : Program} : ∀ (fs : List Field) (s : Sh) (o : Nat), flatB P fs s o = true → Flat P fs s o
 | [], s, o, h => by cases s <;> simp [flatB] at h
 | [f], s, o, h => by
  have h' : leafB P f s o = true := by cases s <;> exact h
  have := leafB_ok h'
  cases s <;> exact this
 | f :: g :: r, s, o, h => by
  cases s with
  | pr s b =>
   simp only [flatB, Bool.and_eq_true] at h
   exact ⟨leafB_ok h.1, flatB_ok (g :: r) b (o + 1) h.2⟩
  | unit => simp [flatB] at h
  | int _ => simp [flatB] at h
  | bool => simp [flatB] at h
  | str => simp [flatB] at h
  | sl _ _ => simp [flatB] at h
theorem fieldB_ok {P : Program} {i : TI} {fs : Array Field} {n : Nat} (h : fieldB P i fs n = true) : FieldOk P i fs n := by
 unfold fieldB at h
 split at h
 ·rename_i f agg1 s1 o s2 h1 h2 h3
  simp only [Bool.and_eq_true, decide_eq_true_eq] at h
  obtain ⟨⟨⟨⟨⟨⟨rfl, k1⟩, k2⟩, k3⟩, k4⟩, k5⟩, k6⟩ := h
  split at k2
  ·rename_i fi hfi
   simp only [decide_eq_true_eq] at k2
   refine ⟨f, agg1, s1, o, fi, h1, h2, h3, k1, hfi, k2, k3, k4, k5, fun e => ?_⟩
   subst e; simpa using k6
  ·cases k2
 ·cases h
theorem tokB_ok {P : Program} {t : Nat} {i : TI} (h : tokB P t i = true) : TOk P t i := by
 unfold tokB at h
 simp only [Bool.and_eq_true, decide_eq_true_eq] at h
 obtain ⟨⟨⟨⟨⟨⟨⟨k1, k2⟩, k3⟩, k4⟩, k5⟩, k6⟩, k7⟩, k8⟩ := h
 have sc : i.agg = false → (match i.sh, P.underlying t with
  | .int k, some (.int k') => decide (k = k')
  | .str, some .string => true
  | .bool, some .bool => true
  | .sl e s, some (.slice e') => decide (e = e') && (match P.info? e with
   | some ti => decide (ti.size = s.size) && decide (0 < s.size) && (match ti.zero with | some z => zB z.cells.toList s.encZ | none => false)
   | none => false)
  | _, _ => false) = true := fun e => by rw [e] at k8; simpa using k8
 have st : i.agg = true → ∃ fs, P.underlying t = some (.struct fs) ∧ fs.size = i.nf ∧ (List.range i.nf).all (fieldB P i fs) = true ∧ (i.cmp = true → (flatB P fs.toList i.sh 0 = true ∧ P.stoodInHeld t = false) ∧ P.eqGuardType P.depth t = false) := fun e => by
  rw [e] at k7
  simp only [Bool.not_true, Bool.false_or] at k7
  split at k7
  ·rename_i fs hu
   simp only [Bool.and_eq_true, decide_eq_true_eq, Bool.or_eq_true, Bool.not_eq_true'] at k7
   refine ⟨fs, hu, k7.1.1, k7.1.2, fun hc => ?_⟩
   rcases k7.2 with q | q
   ·rw [hc] at q; cases q
   ·exact q
  ·cases k7
 refine ⟨fun e => ?_, ?_, k3, k4, k5, fun e => ?_, fun e => ?_, fun hc e => ?_, fun k hs e => ?_, fun hs e => ?_, fun hs e => ?_, fun e' s hs e => ?_⟩
 ·rw [e] at k1; simpa using k1
 ·split at k2
  ·rename_i ti hti
   simp only [Bool.and_eq_true, decide_eq_true_eq] at k2
   obtain ⟨⟨q1, q2⟩, q3⟩ := k2
   split at q3
   ·rename_i z hz; exact ⟨ti, z, hti, q1, q2, hz, zB_eq _ _ q3⟩
   ·cases q3
  ·cases k2
 ·rw [e] at k6; simpa using k6
 ·obtain ⟨fs, u1, u2, u3, _⟩ := st e
  exact ⟨fs, u1, u2, fun n hn => fieldB_ok (List.all_eq_true.1 u3 n (List.mem_range.2 hn))⟩
 ·obtain ⟨fs, u1, u2, u3, u4⟩ := st e
  obtain ⟨⟨q1, q2⟩, q3⟩ := u4 hc
  exact ⟨fs, u1, flatB_ok _ _ _ q1, q2, q3⟩
 ·have := sc e
  rw [hs] at this
  split at this
  all_goals simp_all
 ·have := sc e
  rw [hs] at this
  split at this
  all_goals simp_all
 ·have := sc e
  rw [hs] at this
  split at this
  all_goals simp_all
 ·have := sc e
  rw [hs] at this
  split at this
  ·rename_i q _; cases q
  ·rename_i q _; cases q
  ·rename_i q _; cases q
  ·rename_i e1 s1 e2 q hu
   cases q
   simp only [Bool.and_eq_true, decide_eq_true_eq] at this
   obtain ⟨rfl, q3⟩ := this
   refine ⟨hu, ?_⟩
   split at q3
   ·rename_i ti hti
    simp only [Bool.and_eq_true, decide_eq_true_eq] at q3
    obtain ⟨⟨m1, m2⟩, m3⟩ := q3
    split at m3
    ·rename_i z hz; exact ⟨ti, z, hti, m1, hz, zB_eq _ _ m3, m2⟩
    ·cases m3
   ·cases q3
  ·cases this
theorem tab_ok {P : Program} {T : List (Nat × TI)} (h : T.all (fun q => tokB P q.1 q.2) = true) : TabOk P T := by
 intro t i hi
 have key : ∀ T : List (Nat × TI), tget T t = some i → (t, i) ∈ T := by
  intro T
  induction T with
  | nil => intro h; cases h
  | cons q r ih =>
   intro h
   obtain ⟨n, j⟩ := q
   simp only [tget] at h
   split at h
   ·rename_i e
    obtain rfl := Option.some.inj h
    simp only [beq_iff_eq] at e
    subst e
    exact List.mem_cons_self
   ·exact List.mem_cons_of_mem _ (ih h)
 exact tokB_ok (List.all_eq_true.1 h _ (key T hi))
end Go.Proofs.YtoeblmcibheldaaDoor.V
end
section
/- Words for the walk over values. No condition. -/
namespace Go.Proofs.YtoeblmcibheldaaDoor.V
open Go Go.RowKit
section
variable {P : Program} {T : List (Nat × TI)} {st : St} {Q : Exit → St → Prop}
theorem VW.regl (hT : TabOk P T) {id : Nat} {ops : Array Oper} (h : ∀ K : St → Prop, (∀ s, Q .normal s → K s) → vops P T ops ops.toList st K) : VW P (.region id ops false) st Q :=
 VW.region hT (h _ fun _ h => h)
end
theorem wrap64 {x : Int} (h : -9223372036854775808 ≤ x) (k : x ≤ 9223372036854775807) : IntKind.i64.wrap x = x := by rw [IntKind.wrap_i64]; omega
/-- a row that is being filled -/
def fillTo {α : Type} (xs : List α) (z : α) (i : Nat) : List α := xs.take i ++ List.replicate (xs.length - i) z
theorem fillTo_len {α : Type} {xs : List α} {z : α} {i : Nat} (h : i ≤ xs.length) : (fillTo xs z i).length = xs.length := by
 simp [fillTo]; omega
theorem fillTo_zero {α : Type} (xs : List α) (z : α) : fillTo xs z 0 = List.replicate xs.length z := by simp [fillTo]
theorem fillTo_all {α : Type} (xs : List α) (z : α) {i : Nat} (h : xs.length ≤ i) : fillTo xs z i = xs := by
 unfold fillTo
 rw [List.take_of_length_le h, Nat.sub_eq_zero_of_le h]; simp
theorem fillTo_set {α : Type} {xs : List α} {z : α} {i : Nat} (h : i < xs.length) : (fillTo xs z i).set i (xs.getD i z) = fillTo xs z (i + 1) := by
 unfold fillTo
 apply List.ext_getElem
 ·simp; omega
 ·intro k h1 h2
  rw [List.getElem_set]
  split
  ·rename_i e
   subst e
   rw [List.getElem_append_left (by simp; omega)]
   simp [List.getD_eq_getElem?_getD, h]
  ·rename_i e
   rcases Nat.lt_or_ge k i with hk | hk
   ·rw [List.getElem_append_left (by simp; omega), List.getElem_append_left (by simp; omega)]
    simp
   ·rw [List.getElem_append_right (by simp; omega), List.getElem_append_right (by simp; omega)]
    simp
theorem emp0 : (#[] : Array Operand).isEmpty = true := rfl
theorem emp1 : (#[] : Array (Nat × Operand)).isEmpty = true := rfl
theorem ps1 : (PStep.l == PStep.l) = true := rfl
theorem ps2 : (PStep.l == PStep.r) = false := rfl
theorem ps3 : (PStep.r == PStep.l) = false := rfl
theorem ps4 : (PStep.r == PStep.r) = true := rfl
theorem ps5 (i j : Nat) : (PStep.el i == PStep.el j) = decide (i = j) := by
 by_cases h : i = j
 ·subst h; simp
 ·simp [h]
end Go.Proofs.YtoeblmcibheldaaDoor.V
end
section
/- Regions that run in any order. No condition. -/
namespace Go.Proofs.YtoeblmcibheldaaDoor.V
open Go Go.RowKit
def ments : PV → List Nat
 | .h _ g _ => [g]
 | .adr g _ => [g]
 | .fn _ caps => caps.filterMap fun | .adr g _ => some g | .fadr .. => none
 | _ => []
section
variable {o : Oper} {st : St} {T : List (Nat × TI)} {rt rt' : St}
theorem look_eq {g : Nat} (h : rt'.at g = rt.at g) (p : Path) : look rt' g p = look rt g p := by unfold look; rw [h]
theorem lenOf_eq {pv : PV} (h : ∀ g ∈ ments pv, rt'.at g = rt.at g) : lenOf rt' pv = lenOf rt pv := by
 cases pv with
 | h agg g p => cases agg <;> simp only [lenOf, look_eq (h g (by simp [ments]))]
 | v agg s x => cases agg <;> cases s <;> rfl
 | _ => rfl
theorem rowOf_eq {e : TypeId} {s : Sh} {pv : PV} (h : ∀ g ∈ ments pv, rt'.at g = rt.at g) : rowOf rt' e s pv = rowOf rt e s pv := by
 cases pv with
 | h agg g p => cases agg <;> simp only [rowOf, look_eq (h g (by simp [ments]))]
 | v agg s x => cases agg <;> rfl
 | _ => rfl
theorem pop_rt (h : ∀ x ∈ o.op.operands.toList, ∀ g ∈ ments (ref st x), rt'.at g = rt.at g) (hr : ∀ t ∈ reads o, rt'.at t = rt.at t) : pop T rt' st o = pop T rt st o := by
 cases ho : o.op with
 | load t x =>
  have hx := h x (by simp [ho, Op.operands])
  unfold pop
  simp only [ho]
  cases hp : ref st x with
  | adr g p => rw [hp] at hx; simp only [look_eq (hx g (by simp [ments]))]
  | _ => rfl
 | fieldAddr t x n =>
  have hx := h x (by simp [ho, Op.operands])
  unfold pop
  simp only [ho]
  cases hp : ref st x with
  | adr g p => rw [hp] at hx; simp only [look_eq (hx g (by simp [ments]))]
  | _ => rfl
 | field t x n =>
  have hx := h x (by simp [ho, Op.operands])
  unfold pop
  simp only [ho]
  cases tget T t with
  | none => rfl
  | some i =>
   simp only
   generalize i.fs[n]? = q
   cases hp : ref st x with
   | h agg g p =>
    rw [hp] at hx
    have e := look_eq (hx g (by simp [ments])) p
    cases agg with
    | true => cases q with
     | none => rfl
     | some ab => obtain ⟨a, b⟩ := ab; simp only [e]
    | false => cases q <;> rfl
   | v agg s x => cases agg <;> cases q <;> rfl
   | _ => cases q <;> rfl
 | indexAddr t x y =>
  have hx := h x (by simp [ho, Op.operands])
  unfold pop
  simp only [ho]
  cases hp : ref st x with
  | h agg g p => rw [hp] at hx; cases agg <;> simp only [look_eq (hx g (by simp [ments]))]
  | v agg s x => cases agg <;> rfl
  | _ => rfl
 | extract x n => cases x with
  | tmp t =>
   unfold pop
   simp only [ho, hr t (mem_reads (by simp [ho, Op.operands]))]
  | _ => unfold pop; simp only [ho]
 | call c =>
  obtain ⟨callee, args, ts⟩ := c
  have hm : ∀ x ∈ args.toList, ∀ g ∈ ments (ref st x), rt'.at g = rt.at g := fun x hx => h x (by simp only [ho, Op.operands, Call.operands]; first | exact hx | (cases callee <;> simp_all))
  cases callee with
  | builtin b => cases b with
   | len =>
    unfold pop
    simp only [ho]
    split
    ·rename_i x t ha ht
     rw [lenOf_eq (hm x (by rw [ha]; simp))]
    ·rfl
   | append =>
    unfold pop
    simp only [ho]
    split
    ·rename_i x y t t' ha ht
     have : ∀ e s, rowOf rt' e s (ref st y) = rowOf rt e s (ref st y) := fun e s => rowOf_eq (hm y (by rw [ha]; simp))
     simp only [this]
    ·rfl
   | _ => unfold pop; simp only [ho]
  | _ => unfold pop; simp only [ho]
 | makeFunc f first caps => cases f <;> (unfold pop; simp only [ho])
 | slice t x lo hi mx => cases mx <;> (unfold pop; simp only [ho])
 | _ => unfold pop; simp only [ho]
theorem lendCap_eq {c : Cap} (h : ∀ g p, c = .adr g p → rt'.at g = rt.at g) : lendCap rt' c = lendCap rt c := by
 cases c with
 | adr g p => simp only [lendCap, look_eq (h g p rfl)]
 | fadr => rfl
theorem lendCaps_eq : ∀ (caps : List Cap), (∀ g p, Cap.adr g p ∈ caps → rt'.at g = rt.at g) → lendCaps rt' caps = lendCaps rt caps
 | [], _ => rfl
 | c :: r, h => by
  simp only [lendCaps]
  rw [lendCap_eq fun g p e => h g p (by rw [e]; exact List.mem_cons_self), lendCaps_eq r fun g p hm => h g p (List.mem_cons_of_mem _ hm)]
theorem ments_fn {f : FuncId} {caps : List Cap} {g : Nat} {p : Path} (h : Cap.adr g p ∈ caps) : g ∈ ments (.fn f caps) := by
 simp only [ments, List.mem_filterMap]
 exact ⟨_, h, rfl⟩
theorem lend_eq {pv : PV} (h : ∀ g ∈ ments pv, rt'.at g = rt.at g) : lend rt' pv = lend rt pv := by
 cases pv with
 | h agg g p => simp only [lend, look_eq (h g (by simp [ments]))]
 | adr g p => simp only [lend]; exact lendCap_eq fun g' p' e => by cases e; exact h _ (by simp [ments])
 | fn f caps => simp only [lend]; rw [lendCaps_eq caps fun g p hm => h g (ments_fn hm)]
 | _ => rfl
theorem lendAll_eq {st' : St} : ∀ (xs : List Operand), (∀ x ∈ xs, ref st' x = ref st x) → (∀ x ∈ xs, ∀ g ∈ ments (ref st x), rt'.at g = rt.at g) → lendAll rt' st' xs = lendAll rt st xs
 | [], _, _ => rfl
 | x :: r, h1, h2 => by
  simp only [lendAll]
  rw [h1 x List.mem_cons_self, lend_eq (h2 x List.mem_cons_self), lendAll_eq r (fun y hy => h1 y (List.mem_cons_of_mem _ hy)) (fun y hy => h2 y (List.mem_cons_of_mem _ hy))]
end
/-! ### the order of the operations -/
def uni (a b : List Nat) : List Nat := a.foldl (fun acc x => if acc.contains x then acc else x :: acc) b
theorem mem_uni {x : Nat} : ∀ {a b : List Nat}, x ∈ uni a b → x ∈ a ∨ x ∈ b
 | [], b, h => .inr h
 | y :: a, b, h => by
  unfold uni at h
  simp only [List.foldl_cons] at h
  rcases mem_uni (a := a) h with h | h
  ·exact .inl (List.mem_cons_of_mem _ h)
  ·split at h
   ·exact .inr h
   ·rcases List.mem_cons.1 h with rfl | h
    ·exact .inl List.mem_cons_self
    ·exact .inr h
def ancStep (acc : List (List Nat)) (es : List Edge) : List Nat := es.foldl (fun l e => if Region.binds .any e then uni (e.on :: acc.getD e.on []) l else l) []
def ancsGo : List Oper → List (List Nat) → List (List Nat)
 | [], acc => acc
 | o :: r, acc => ancsGo r (acc ++ [ancStep acc o.after.toList])
theorem ancStep_mem {acc : List (List Nat)} {m : Nat} : ∀ {es : List Edge}, m ∈ ancStep acc es → ∃ e ∈ es, Region.binds .any e = true ∧ (m = e.on ∨ m ∈ acc.getD e.on []) := by
 intro es
 have key : ∀ (es : List Edge) (l : List Nat), m ∈ es.foldl (fun l e => if Region.binds .any e then uni (e.on :: acc.getD e.on []) l else l) l → m ∈ l ∨ ∃ e ∈ es, Region.binds .any e = true ∧ (m = e.on ∨ m ∈ acc.getD e.on []) := by
  intro es
  induction es with
  | nil => intro l h; exact .inl h
  | cons e r ih =>
   intro l h
   simp only [List.foldl_cons] at h
   rcases ih _ h with h | ⟨e', h1, h2⟩
   ·split at h
    ·rename_i hb
     rcases mem_uni h with h | h
     ·right
      refine ⟨e, List.mem_cons_self, hb, ?_⟩
      rcases List.mem_cons.1 h with h | h
      ·exact .inl h
      ·exact .inr h
     ·exact .inl h
    ·exact .inl h
   ·exact .inr ⟨e', List.mem_cons_of_mem _ h1, h2⟩
 intro h
 rcases key es [] h with h | h
 ·simp at h
 ·exact h
theorem ancsGo_get : ∀ (os : List Oper) (acc : List (List Nat)) (k : Nat), k < acc.length → (ancsGo os acc)[k]? = acc[k]?
 | [], acc, k, _ => rfl
 | o :: r, acc, k, hk => by
  unfold ancsGo
  rw [ancsGo_get r _ k (by simp; omega), List.getElem?_append_left hk]
theorem ancsGo_at : ∀ (os : List Oper) (acc : List (List Nat)) (k : Nat) (o : Oper), os[k]? = some o → ∃ acc', (ancsGo os acc)[acc.length + k]? = some (ancStep acc' o.after.toList) ∧ acc'.length = acc.length + k ∧ ∀ j, j < acc.length + k → acc'.getD j [] = (ancsGo os acc).getD j []
 | [], acc, k, o, h => by simp at h
 | o' :: r, acc, 0, o, h => by
  simp only [List.getElem?_cons_zero, Option.some.injEq] at h
  subst h
  refine ⟨acc, ?_, rfl, fun j hj => ?_⟩
  ·unfold ancsGo
   rw [ancsGo_get r _ _ (by simp)]
   simp
  ·unfold ancsGo
   rw [List.getD_eq_getElem?_getD, List.getD_eq_getElem?_getD, ancsGo_get r _ j (by simp; omega), List.getElem?_append_left (by omega)]
 | o' :: r, acc, k + 1, o, h => by
  simp only [List.getElem?_cons_succ] at h
  obtain ⟨acc', h1, h2, h3⟩ := ancsGo_at r (acc ++ [ancStep acc o'.after.toList]) k o h
  simp only [List.length_append, List.length_cons, List.length_nil, Nat.zero_add] at h1 h2 h3
  refine ⟨acc', ?_, by omega, fun j hj => ?_⟩
  ·unfold ancsGo; rw [show acc.length + (k + 1) = acc.length + 1 + k by omega]; exact h1
  ·unfold ancsGo; exact h3 j (by omega)
def anc (ops : Array Oper) (i : Nat) : List Nat := (ancsGo ops.toList []).getD i []
theorem anc_mem {ops : Array Oper} {i m : Nat} {o : Oper} (ho : ops[i]? = some o) (hlt : ∀ e ∈ o.after.toList, Region.binds .any e = true → e.on < i) (hm : m ∈ anc ops i) : ∃ e ∈ o.after.toList, Region.binds .any e = true ∧ (m = e.on ∨ m ∈ anc ops e.on) := by
 obtain ⟨acc', h1, h2, h3⟩ := ancsGo_at ops.toList [] i o (by simpa using ho)
 simp only [List.length_nil, Nat.zero_add] at h1 h2 h3
 unfold anc at hm
 rw [List.getD_eq_getElem?_getD, h1] at hm
 obtain ⟨e, e1, e2, e3⟩ := ancStep_mem hm
 refine ⟨e, e1, e2, e3.imp id fun q => ?_⟩
 unfold anc
 rw [← h3 e.on (hlt e e1 e2)]
 exact q
/-- the slots that may be written before or behind operation i -/
def unav (ops : Array Oper) (i : Nat) : List Nat := (List.range ops.size).filterMap fun j => if (anc ops i).contains j then none else (ops[j]?).bind (·.dst)
def guardOk (ops : Array Oper) (i : Nat) (o : Oper) : Bool := match o.guard with
 | none => true
 | some (j, _) => match (ops[j]?).bind (·.dst) with
  | none => true
  | some d => !(unav ops i).contains d
def drawOk (ops : Array Oper) : Bool := (List.range ops.size).all fun i => match ops[i]? with
 | none => true
 | some o => o.after.toList.all (fun e => !Region.binds .any e || decide (e.on < i)) && (reads o).all (fun t => !(unav ops i).contains t) && guardOk ops i o &&
  (List.range ops.size).all fun j => decide (j = i) || match o.dst, (ops[j]?).bind (·.dst) with
   | some d, some d' => decide (d ≠ d')
   | _, _ => true
def mentOk (U : List Nat) (st : St) (o : Oper) : Bool := o.op.operands.toList.all fun x => (ments (ref st x)).all fun g => !U.contains g
/-- a call whose result is one -/
def vcallD (P : Program) (f : FuncId) (args : List PV) [K : Hd (PV → Prop)] : Prop := ∃ pv, VC P f args (· = pv) ∧ K.val pv
theorem vcallD_of {P : Program} {f : FuncId} {args : List PV} {K : PV → Prop} {pv : PV} (h : VC P f args (· = pv)) (k : K pv) : @vcallD P f args ⟨K⟩ := ⟨_, h, k⟩
def vreadD (P : Program) (T : List (Nat × TI)) (st : St) (o : Oper) [K : Hd (PV → Prop)] : Prop :=
 match o.op with
 | .call ⟨.value fop, args, _⟩ => match ref st fop with
  | .fn f caps => match lendCaps st caps, lendAll st st args.toList with
   | some cs, some (ps, b) => @vcallD P f (ps ++ cs.map capPV) ⟨fun pv => okRes (b || caps.any isAdr) pv = true ∧ K.val pv⟩
   | _, _ => False
  | _ => False
 | _ => match pop T st st o with
  | some out => out.c = true ∧ out.cl = true ∧ K.val out.pv
  | none => False
def vdraw (P : Program) (T : List (Nat × TI)) (ops : Array Oper) : Nat → List Oper → St → (St → Prop) → Prop
 | _, [], st, K => K st
 | i, o :: r, st0, K => @vguard st0 ops o ⟨fun run st => match run with
  | true => mentOk (unav ops i) st o = true ∧ nonroot st o.dst = true ∧ @vreadD P T st o ⟨fun pv => vdraw P T ops (i + 1) r (setD st o.dst pv) K⟩
  | false => nonroot st o.dst = true ∧ vdraw P T ops (i + 1) r (setD st o.dst skipPV) K⟩
section
variable {P : Program} {T : List (Nat × TI)} {ops : Array Oper}
/-- operation i, in a state that is as told but for the slots U, leads on -/
def Sure (P : Program) (ops : Array Oper) (o : Oper) (U : List Nat) (st : St) (pv : PV) : Prop :=
 ∀ (st' : St), (∀ t, t ∉ U → st'.at t = st.at t) → nonroot st' o.dst = true → ∀ (L : Lay) (a : Act) (w : World) (next : Act → World → Prop) (Q : Exit → Act → World → Prop), Rel L st' a w Free →
  (∀ L' a' w', Stp L L' w w' → Rel L' (setD st' o.dst pv) a' w' Free → next a' w') →
  if Region.wanted o (yielded ops a.tmps) then o.wp P a w next Q ∨ (o.asks P a w ∧ LetsOut Q) else next (a.put o.dst undef) w
inductive Tr (P : Program) (ops : Array Oper) : Nat → List Oper → St → St → Prop
 | nil {i : Nat} {st : St} : Tr P ops i [] st st
 | step {i : Nat} {o : Oper} {r : List Oper} {st F : St} {pv : PV} : Sure P ops o (unav ops i) st pv → nonroot st o.dst = true → Tr P ops (i + 1) r (setD st o.dst pv) F → Tr P ops i (o :: r) st F
theorem vdraw_tr (hT : TabOk P T) (hD : drawOk ops = true) {K : St → Prop} : ∀ (os : List Oper) (i : Nat), ops.toList.drop i = os → ∀ {st : St}, vdraw P T ops i os st K → ∃ F, Tr P ops i os st F ∧ K F
 | [], i, hi, st, hv => ⟨st, .nil, hv⟩
 | o :: r, i, hi, st, hv => by
  have ho : ops[i]? = some o := by
   have : (ops.toList.drop i)[0]? = some o := by rw [hi]; rfl
   rw [List.getElem?_drop] at this
   simpa using this
  have hi' : ops.toList.drop (i + 1) = r := by rw [← List.drop_drop, hi]; rfl
  have hlt : i < ops.size := (Array.getElem?_eq_some_iff.1 ho).1
  have hd := List.all_eq_true.1 hD i (List.mem_range.2 hlt)
  rw [ho] at hd
  simp only [Bool.and_eq_true] at hd
  obtain ⟨⟨⟨_, hreads⟩, hguard⟩, _⟩ := hd
  have hreads : ∀ t ∈ reads o, t ∉ unav ops i := fun t ht => by
   have := List.all_eq_true.1 hreads t ht
   simpa using this
  have hgd : ∀ (st' : St), (∀ t, t ∉ unav ops i → st'.at t = st.at t) → ∀ (j : Nat) (want : Bool) (d : Nat), o.guard = some (j, want) → (ops[j]?).bind (·.dst) = some d → st'.at d = st.at d := fun st' hst j want d hg hd => hst d (by
   unfold guardOk at hguard
   rw [hg] at hguard
   simp only [hd] at hguard
   simpa using hguard)
  -- it is run
  have run : (∀ (st' : St) (L : Lay) (a : Act) (w : World), (∀ t, t ∉ unav ops i → st'.at t = st.at t) → Rel L st' a w Free → Region.wanted o (yielded ops a.tmps) = true) →
    (mentOk (unav ops i) st o = true ∧ nonroot st o.dst = true ∧ @vreadD P T st o ⟨fun pv => vdraw P T ops (i + 1) r (setD st o.dst pv) K⟩) → ∃ F, Tr P ops i (o :: r) st F ∧ K F := by
   rintro hw ⟨hm, hn, hr⟩
   have hment : ∀ x ∈ o.op.operands.toList, ∀ g ∈ ments (ref st x), g ∉ unav ops i := fun x hx g hg => by
    have := List.all_eq_true.1 (List.all_eq_true.1 hm x hx) g hg
    simpa using this
   have fin : ∀ pv, (∀ st', (∀ t, t ∉ unav ops i → st'.at t = st.at t) → nonroot st' o.dst = true → Does P o st' (· = setD st' o.dst pv)) → vdraw P T ops (i + 1) r (setD st o.dst pv) K → ∃ F, Tr P ops i (o :: r) st F ∧ K F := by
    intro pv hdo hv'
    obtain ⟨F, f1, f2⟩ := vdraw_tr hT hD r (i + 1) hi' hv'
    refine ⟨F, .step (fun st' h1 h2 L a w next Q hrel hk => ?_) hn f1, f2⟩
    rw [if_pos (hw st' L a w h1 hrel)]
    exact .inl (hdo st' h1 h2 L a w next Q hrel fun st2 L' a' w' e s r' => by subst e; exact hk L' a' w' s r')
   unfold vreadD at hr
   split at hr
   ·rename_i fop args ts hop
    split at hr
    ·rename_i f caps hf
     split at hr
     ·rename_i cs ps b hcs hps
      obtain ⟨pv, hvc, hok, hv'⟩ := hr
      refine fin pv (fun st' h1 h2 => ?_) hv'
      have hargs : ∀ x ∈ args.toList, x ∈ o.op.operands.toList := fun x hx => by simp [hop, Op.operands, Call.operands]; exact .inr (by simpa using hx)
      have hfop : fop ∈ o.op.operands.toList := by simp [hop, Op.operands, Call.operands]
      have hag : ∀ t ∈ reads o, st'.at t = st.at t := fun t ht => h1 t (hreads t ht)
      have hf' : ref st' fop = .fn f caps := by rw [(ref_eq hag hfop).1, hf]
      have hcs' : lendCaps st' caps = some cs := by
       rw [lendCaps_eq caps fun g p hmem => h1 g (hment fop hfop g (by rw [hf]; exact ments_fn hmem)), hcs]
      have hps' : lendAll st' st' args.toList = some (ps, b) := by
       rw [lendAll_eq args.toList (fun x hx => (ref_eq hag (hargs x hx)).1) (fun x hx g hg => h1 g (hment x (hargs x hx) g hg)), hps]
      intro L a w next Q hrel hk
      exact does_call (fun _ _ _ _ _ h => h) hop hf' hcs' hps' hvc h2 (fun pv' e => by subst e; exact hok) L a w next Q hrel fun st2 L' a' w' ⟨pv', e1, e2⟩ s r' => by
       subst e1
       exact hk st2 L' a' w' e2 s r'
     ·exact hr.elim
    ·exact hr.elim
   ·split at hr
    ·rename_i out hp
     obtain ⟨hc, hcl, hv'⟩ := hr
     refine fin out.pv (fun st' h1 h2 => ?_) hv'
     have hag : ∀ t ∈ reads o, st'.at t = st.at t := fun t ht => h1 t (hreads t ht)
     have h3 := pop_loc hp hcl hag
     have h4 : pop T st' st' o = some ⟨out.c, true, st', out.pv⟩ := by
      rw [pop_rt (rt := st) (rt' := st') (fun x hx g hg => h1 g (hment x hx g (by rwa [(ref_eq hag hx).1] at hg))) hag]
      exact h3
     exact does_pop hT (fun _ _ _ _ _ h => h) h4 hc h2
    ·exact hr.elim
  have skip : (∀ (st' : St) (L : Lay) (a : Act) (w : World), (∀ t, t ∉ unav ops i → st'.at t = st.at t) → Rel L st' a w Free → Region.wanted o (yielded ops a.tmps) = false) →
    (nonroot st o.dst = true ∧ vdraw P T ops (i + 1) r (setD st o.dst skipPV) K) → ∃ F, Tr P ops i (o :: r) st F ∧ K F := by
   rintro hw ⟨hn, hv'⟩
   obtain ⟨F, f1, f2⟩ := vdraw_tr hT hD r (i + 1) hi' hv'
   refine ⟨F, .step (fun st' h1 h2 L a w next Q hrel hk => ?_) hn f1, f2⟩
   rw [if_neg (by rw [hw st' L a w h1 hrel]; simp)]
   obtain ⟨L', s1, s2⟩ := skip_ok hrel h2
   exact hk L' _ w s1 s2
  unfold vdraw at hv
  obtain ⟨rn, h1, h2⟩ := vguard_spec hv
  cases rn with
  | true => exact run (fun st' L a w hag hrel => h2 st' L a w _ (hgd st' hag) hrel) h1
  | false => exact skip (fun st' L a w hag hrel => h2 st' L a w _ (hgd st' hag) hrel) h1
end
end Go.Proofs.YtoeblmcibheldaaDoor.V
end
section
/- Regions that run in any order: the law. No condition. -/
namespace Go.Proofs.YtoeblmcibheldaaDoor.V
open Go Go.RowKit
theorem setD_len (st : St) (d : Option Tmp) (pv : PV) : (setD st d pv).length = st.length := by cases d <;> simp [setD]
theorem setD_at {st : St} {d : Option Tmp} {pv : PV} {t : Nat} (h : d ≠ some t) : (setD st d pv).at t = st.at t := by
 cases d with
 | none => rfl
 | some d => simp only [setD, St.at_set]; rw [if_neg (fun e => h (by rw [e.1]))]
theorem setD_self {st st' : St} {d : Nat} {pv : PV} (h : st.length = st'.length) (h2 : st.at d = st'.at d ∨ True) : (setD st (some d) pv).at d = (if d < st.length then pv else st.at d) := by
 simp only [setD, St.at_set]
 simp
section
variable {P : Program} {T : List (Nat × TI)} {ops : Array Oper}
theorem tr_facts : ∀ {i : Nat} {os : List Oper} {st F : St}, Tr P ops i os st F → F.length = st.length ∧ (∀ t, (∀ o ∈ os, o.dst ≠ some t) → F.at t = st.at t) ∧
  ∀ (k : Nat) (o : Oper), os[k]? = some o → ∃ s pv, Sure P ops o (unav ops (i + k)) s pv ∧ nonroot s o.dst = true ∧ s.length = st.length ∧ (∀ t, (∀ (j : Nat) (o' : Oper), j < k → os[j]? = some o' → o'.dst ≠ some t) → s.at t = st.at t) ∧
   ∀ t, (∀ (j : Nat) (o' : Oper), k < j → os[j]? = some o' → o'.dst ≠ some t) → (setD s o.dst pv).at t = F.at t := by
 intro i os st F h
 induction h with
 | nil => exact ⟨rfl, fun _ _ => rfl, fun k o hk => by simp at hk⟩
 | @step i o r st F pv hs hn ht ih =>
  obtain ⟨l1, l2, l3⟩ := ih
  refine ⟨by rw [l1, setD_len], fun t htt => ?_, fun k o' hk => ?_⟩
  ·rw [l2 t fun o' ho' => htt o' (List.mem_cons_of_mem _ ho'), setD_at (htt o List.mem_cons_self)]
  ·cases k with
   | zero =>
    simp only [List.getElem?_cons_zero, Option.some.injEq] at hk
    subst hk
    refine ⟨st, pv, hs, hn, rfl, fun _ _ => rfl, fun t htt => ?_⟩
    rw [l2 t fun o' ho' => ?_]
    obtain ⟨j, hj⟩ := List.mem_iff_getElem?.1 ho'
    exact htt (j + 1) o' (by omega) (by simpa using hj)
   | succ k =>
    simp only [List.getElem?_cons_succ] at hk
    obtain ⟨s, pv', q1, q2, q3, q4, q5⟩ := l3 k o' hk
    refine ⟨s, pv', by rw [show i + (k + 1) = i + 1 + k by omega]; exact q1, q2, by rw [q3, setD_len], fun t htt => ?_, fun t htt => ?_⟩
    ·rw [q4 t fun j o2 hj ho2 => htt (j + 1) o2 (by omega) (by simpa using ho2), setD_at (htt 0 o (by omega) (by simp))]
    ·exact q5 t fun j o2 hj ho2 => htt (j + 1) o2 (by omega) (by simpa using ho2)
/-! ### counting -/
def cntU : Nat → (Nat → Bool) → Nat
 | 0, _ => 0
 | n + 1, f => cntU n f + if f n = true then 1 else 0
theorem cntU_flip : ∀ (n : Nat) {f g : Nat → Bool} {i : Nat}, i < n → f i = true → g i = false → (∀ j, j ≠ i → g j = f j) → cntU n g + 1 = cntU n f
 | 0, _, _, _, h, _, _, _ => by omega
 | n + 1, f, g, i, h, h1, h2, h3 => by
  simp only [cntU]
  by_cases e : i = n
  ·subst e
   have : cntU i g = cntU i f := by
    have key : ∀ m, m ≤ i → cntU m g = cntU m f := by
     intro m
     induction m with
     | zero => intro _; rfl
     | succ m ih => intro hm; simp only [cntU]; rw [ih (by omega), h3 m (by omega)]
    exact key i (Nat.le_refl _)
   rw [this, h1, h2]; simp
  ·have := cntU_flip n (f := f) (g := g) (i := i) (by omega) h1 h2 h3
   rw [h3 n (by omega)]
   omega
theorem cntU_zero : ∀ (n : Nat) {f : Nat → Bool}, cntU n f = 0 → ∀ j, j < n → f j = false
 | 0, _, _, j, hj => by omega
 | n + 1, f, h, j, hj => by
  simp only [cntU] at h
  by_cases e : j = n
  ·subst e
   cases hf : f j with
   | false => rfl
   | true => rw [hf] at h; simp at h
  ·exact cntU_zero n (by omega) j (by omega)
theorem cntU_all (n : Nat) : cntU n (fun _ => true) = n := by
 induction n with
 | zero => rfl
 | succ n ih => simp only [cntU, ih]; simp
structure Inv (P : Program) (ops : Array Oper) (st F : St) (listed : Array Bool) (st' : St) : Prop where
 size : listed.size = ops.size
 closed : ∀ (i : Nat) (o : Oper), ops[i]? = some o → listed.getD i false = true → ∀ e ∈ o.after.toList, Region.binds .any e = true → listed.getD e.on false = true
 len : st'.length = st.length
 old : ∀ t, (∀ (j : Nat) (o : Oper), ops[j]? = some o → listed.getD j false = true → o.dst ≠ some t) → st'.at t = st.at t
 new : ∀ (j : Nat) (o : Oper) (t : Nat), ops[j]? = some o → listed.getD j false = true → o.dst = some t → st'.at t = F.at t
theorem drawOk_spec (hD : drawOk ops = true) {i : Nat} {o : Oper} (ho : ops[i]? = some o) : (∀ e ∈ o.after.toList, Region.binds .any e = true → e.on < i) ∧ ∀ (j : Nat) (o' : Oper) (d : Nat), ops[j]? = some o' → j ≠ i → o.dst = some d → o'.dst ≠ some d := by
 have hlt : i < ops.size := (Array.getElem?_eq_some_iff.1 ho).1
 have hd := List.all_eq_true.1 hD i (List.mem_range.2 hlt)
 rw [ho] at hd
 simp only [Bool.and_eq_true] at hd
 obtain ⟨⟨⟨h1, _⟩, _⟩, h2⟩ := hd
 refine ⟨fun e he hb => ?_, fun j o' d ho' hj hdst hdst' => ?_⟩
 ·have := List.all_eq_true.1 h1 e he
  simpa [hb] using this
 ·have hj' : j < ops.size := (Array.getElem?_eq_some_iff.1 ho').1
  have := List.all_eq_true.1 h2 j (List.mem_range.2 hj')
  rw [ho'] at this
  simp [hj, hdst, hdst'] at this
theorem anc_listed (hD : drawOk ops = true) {listed : Array Bool} (hc : ∀ (i : Nat) (o : Oper), ops[i]? = some o → listed.getD i false = true → ∀ e ∈ o.after.toList, Region.binds .any e = true → listed.getD e.on false = true) :
  ∀ (i : Nat) (o : Oper), ops[i]? = some o → (∀ e ∈ o.after.toList, Region.binds .any e = true → listed.getD e.on false = true) → ∀ m ∈ anc ops i, m < i ∧ listed.getD m false = true := by
 intro i
 induction i using Nat.strongRecOn with
 | _ i ih =>
  intro o ho hl m hm
  have hlt := (drawOk_spec hD ho).1
  obtain ⟨e, e1, e2, e3⟩ := anc_mem ho hlt hm
  have h1 := hlt e e1 e2
  rcases e3 with rfl | e3
  ·exact ⟨h1, hl e e1 e2⟩
  ·have hi : i < ops.size := (Array.getElem?_eq_some_iff.1 ho).1
   have ho2 : ops[e.on]? = some ops[e.on] := Array.getElem?_eq_getElem (by omega)
   obtain ⟨q1, q2⟩ := ih e.on h1 _ ho2 (hc e.on _ ho2 (hl e e1 e2)) m e3
   exact ⟨by omega, q2⟩
theorem any_ok (hD : drawOk ops = true) {st F : St} (htr : Tr P ops 0 ops.toList st F) {Q : Exit → Act → World → Prop} {L0 : Lay} {w0 : World} (hQ : ∀ L a w, Stp L0 L w0 w → Rel L F a w Free → Q .normal a w) :
  ∀ (fuel : Nat) (listed : Array Bool) (L : Lay) (st' : St) (a : Act) (w : World), Inv P ops st F listed st' → cntU ops.size (fun i => !listed.getD i false) = fuel → Rel L st' a w Free → Stp L0 L w0 w → wpAny P .any ops Q fuel listed a w := by
 obtain ⟨hFl, hFo, hfacts⟩ := tr_facts htr
 have hgd : ∀ {listed : Array Bool} {i : Nat}, listed.size = ops.size → i < ops.size → listed.getD i true = listed.getD i false := by
  intro listed i hs hi
  have : i < listed.size := by omega
  simp [Array.getD, this]
 have hready : ∀ {listed : Array Bool} {i : Nat}, listed.size = ops.size → (i ∈ Region.ready .any ops listed ↔ ∃ o, ops[i]? = some o ∧ listed.getD i false = false ∧ ∀ e ∈ o.after.toList, Region.binds .any e = true → listed.getD e.on false = true) := by
  intro listed i hs
  unfold Region.ready
  rw [List.mem_filter, List.mem_range]
  constructor
  ·rintro ⟨hi, h2⟩
   have ho : ops[i]? = some ops[i] := Array.getElem?_eq_getElem hi
   rw [ho, hgd hs hi] at h2
   simp only [Bool.and_eq_true, Bool.not_eq_true', Option.map_some, Option.getD_some] at h2
   refine ⟨_, ho, h2.1, fun e he hb => ?_⟩
   have := (Array.all_eq_true_iff_forall_mem.1 h2.2) e (by simpa using he)
   simpa [hb] using this
  ·rintro ⟨o, ho, h1, h2⟩
   have hi : i < ops.size := (Array.getElem?_eq_some_iff.1 ho).1
   refine ⟨hi, ?_⟩
   rw [ho, hgd hs hi, h1]
   simp only [Bool.not_false, Bool.true_and, Option.map_some, Option.getD_some]
   refine Array.all_eq_true_iff_forall_mem.2 fun e he => ?_
   by_cases hb : Region.binds .any e = true
   ·rw [h2 e (by simpa using he) hb]; simp
   ·simp [hb]
 have fin : ∀ (listed : Array Bool) (L : Lay) (st' : St) (a : Act) (w : World), Inv P ops st F listed st' → (∀ j, j < ops.size → listed.getD j false = true) → Rel L st' a w Free → Stp L0 L w0 w → Q .normal a w := by
  intro listed L st' a w hI hall hrel hs
  have hat : ∀ t, st'.at t = F.at t := by
   intro t
   by_cases hex : ∃ (j : Nat) (o : Oper), ops[j]? = some o ∧ o.dst = some t
   ·obtain ⟨j, o, h1, h2⟩ := hex
    exact hI.new j o t h1 (hall j (Array.getElem?_eq_some_iff.1 h1).1) h2
   ·rw [hI.old t fun j o h1 _ h2 => hex ⟨j, o, h1, h2⟩, hFo t fun o ho h2 => ?_]
    obtain ⟨j, hj⟩ := List.mem_iff_getElem?.1 ho
    exact hex ⟨j, o, by simpa using hj, h2⟩
  have e : st' = F := by
   apply List.ext_getElem
   ·rw [hI.len, hFl]
   ·intro t h1 h2
    have := hat t
    unfold St.at at this
    rw [List.getD_eq_getElem?_getD, List.getD_eq_getElem?_getD, List.getElem?_eq_getElem h1, List.getElem?_eq_getElem h2] at this
    exact this
  subst e
  exact hQ L a w hs hrel
 intro fuel
 induction fuel with
 | zero =>
  intro listed L st' a w hI hc hrel hs
  have hall : ∀ j, j < ops.size → listed.getD j false = true := fun j hj => by simpa using cntU_zero _ hc j hj
  refine ⟨?_, fin listed L st' a w hI hall hrel hs⟩
  rw [List.eq_nil_iff_forall_not_mem]
  intro i hi
  obtain ⟨o, ho, h1, _⟩ := (hready hI.size).1 hi
  rw [hall i (Array.getElem?_eq_some_iff.1 ho).1] at h1
  cases h1
 | succ fuel ih =>
  intro listed L st' a w hI hc hrel hs
  refine ⟨fun hr => ?_, fun i hi => ?_⟩
  ·refine fin listed L st' a w hI (fun j => ?_) hrel hs
   induction j using Nat.strongRecOn with
   | _ j ihj =>
    intro hj
    cases hl : listed.getD j false with
    | true => rfl
    | false =>
     have ho : ops[j]? = some ops[j] := Array.getElem?_eq_getElem hj
     have : j ∈ Region.ready .any ops listed := (hready hI.size).2 ⟨_, ho, hl, fun e he hb => by
      have := (drawOk_spec hD ho).1 e he hb
      exact ihj e.on this (by omega)⟩
     rw [hr] at this
     cases this
  ·obtain ⟨o, ho, h1, h2⟩ := (hready hI.size).1 hi
   have hi' : i < ops.size := (Array.getElem?_eq_some_iff.1 ho).1
   obtain ⟨s, pv, f1, f2, f3, f4, f5⟩ := hfacts i o (by simpa using ho)
   rw [Nat.zero_add] at f1
   have hsp := drawOk_spec hD ho
   have hanc := anc_listed hD hI.closed i o ho h2
   have hag : ∀ t, t ∉ unav ops i → st'.at t = s.at t := by
    intro t ht
    by_cases hex : ∃ (j : Nat) (o' : Oper), ops[j]? = some o' ∧ o'.dst = some t
    ·obtain ⟨j, o', g1, g2⟩ := hex
     have hj : j < ops.size := (Array.getElem?_eq_some_iff.1 g1).1
     have hja : j ∈ anc ops i := by
      refine Classical.byContradiction fun hn => ht ?_
      refine List.mem_filterMap.2 ⟨j, List.mem_range.2 hj, ?_⟩
      have hn' : (anc ops i).contains j = false := by simpa using hn
      rw [hn', g1]
      simpa using g2
     obtain ⟨q1, q2⟩ := hanc j hja
     have hspj := drawOk_spec hD g1
     rw [hI.new j o' t g1 q2 g2, ← f5 t fun k o2 hk ho2 => hspj.2 k o2 t (by simpa using ho2) (by omega) g2]
     exact setD_at (hspj.2 i o t ho (by omega) g2)
    ·rw [hI.old t fun j o' g1 _ g2 => hex ⟨j, o', g1, g2⟩, f4 t fun j o' _ g1 g2 => hex ⟨j, o', by simpa using g1, g2⟩]
   have hdst : ∀ d, o.dst = some d → st'.at d = st.at d ∧ s.at d = st.at d := fun d hd => ⟨hI.old d fun j o' g1 g2 g3 => by
    by_cases e : j = i
    ·subst e; rw [h1] at g2; cases g2
    ·exact hsp.2 j o' d g1 e hd g3, f4 d fun j o' hj g1 => hsp.2 j o' d (by simpa using g1) (by omega) hd⟩
   have hnr : nonroot st' o.dst = true := by
    cases hd : o.dst with
    | none => rfl
    | some d =>
     rw [hd] at f2
     obtain ⟨q1, q2⟩ := hdst d hd
     simp only [nonroot] at f2 ⊢
     rw [q1, ← q2]; exact f2
   have hset : ∀ k, (listed.setIfInBounds i true).getD k false = if k = i then true else listed.getD k false := by
    intro k
    have hil : i < listed.size := by rw [hI.size]; exact hi'
    simp only [Array.getD_eq_getD_getElem?, Array.getElem?_setIfInBounds]
    by_cases e : i = k
    ·subst e; simp [hil]
    ·have e' : ¬ k = i := fun h => e h.symm
     simp [e, e']
   have hw := f1 st' hag hnr L a w (wpAny P .any ops Q fuel (listed.setIfInBounds i true)) Q hrel fun L' a' w' hs' hr' => ?_
   ·unfold wpOp
    rw [ho]
    exact hw
   ·refine ih (listed.setIfInBounds i true) L' _ a' w' ⟨by rw [Array.size_setIfInBounds, hI.size], fun k o' hk hl e he hb => ?_, by rw [setD_len, hI.len], fun t ht => ?_, fun j o' t hj hl hd => ?_⟩ ?_ hr' (hs.trans hs')
    ·rw [hset] at hl ⊢
     by_cases e1 : k = i
     ·subst e1
      rw [ho] at hk
      obtain rfl := Option.some.inj hk
      rw [h2 e he hb]; simp
     ·rw [if_neg e1] at hl
      rw [hI.closed k o' hk hl e he hb]; simp
    ·have hne : o.dst ≠ some t := ht i o ho (by rw [hset, if_pos rfl])
     rw [setD_at hne]
     exact hI.old t fun j o' g1 g2 => ht j o' g1 (by rw [hset, g2]; simp)
    ·by_cases e1 : j = i
     ·subst e1
      rw [ho] at hj
      obtain rfl := Option.some.inj hj
      rw [← f5 t fun k o2 hk ho2 => hsp.2 k o2 t (by simpa using ho2) (by omega) hd]
      obtain ⟨q1, q2⟩ := hdst t hd
      rw [hd, setD_self (st' := st) hI.len (.inr trivial), setD_self (st' := st) f3 (.inr trivial), hI.len, f3, q1, q2]
     ·rw [hset, if_neg e1] at hl
      rw [setD_at (hsp.2 j o' t hj e1 · hd)]
      exact hI.new j o' t hj hl hd
    ·have := cntU_flip ops.size (f := fun k => !listed.getD k false) (g := fun k => !(listed.setIfInBounds i true).getD k false) hi' (by simp only [h1]; rfl) (by simp only [hset]; simp) (fun j hj => by simp only [hset, if_neg hj])
     omega
theorem VW.draw (hT : TabOk P T) (hm : P.follows .mixedOrders = true) (hD : drawOk ops = true) {id : Nat} {st : St} {Q : Exit → St → Prop} (h : vdraw P T ops 0 ops.toList st (Q .normal)) : VW P (.region id ops true) st Q := by
 intro L a w hr
 obtain ⟨F, htr, hF⟩ := vdraw_tr hT hD ops.toList 0 (by simp) h
 refine wp_region_any hm ?_
 have hx : Ext w { w with drawn := w.drawn + 1 } := Ext.drew w
 refine any_ok hD htr (L0 := L) (w0 := w) (fun L' a' w' s r => ⟨L', F, s, r, hF⟩) ops.size _ L st a _ ⟨by simp, fun i o ho hl => ?_, rfl, fun _ _ => rfl, fun j o t hj hl => ?_⟩ ?_ (hr.grow hx) (Stp.ext hx)
 ·have hi : i < ops.size := (Array.getElem?_eq_some_iff.1 ho).1
  simp [Array.getD, hi] at hl
 ·have hi : j < ops.size := (Array.getElem?_eq_some_iff.1 hj).1
  simp [Array.getD, hi] at hl
 ·have : ∀ n, n ≤ ops.size → cntU n (fun i => !(Array.replicate ops.size false).getD i false) = n := by
   intro n
   induction n with
   | zero => intro _; rfl
   | succ n ih =>
    intro hn
    simp only [cntU]
    rw [ih (by omega)]
    have : n < ops.size := by omega
    simp [Array.getD, this]
  exact this ops.size (Nat.le_refl _)
theorem VW.drawl (hT : TabOk P T) (hm : P.follows .mixedOrders = true) {id : Nat} {st : St} {Q : Exit → St → Prop} (hD : drawOk ops = true) (h : ∀ K : St → Prop, (∀ s, Q .normal s → K s) → vdraw P T ops 0 ops.toList st K) : VW P (.region id ops true) st Q :=
 VW.draw hT hm hD (h _ fun _ h => h)
end
end Go.Proofs.YtoeblmcibheldaaDoor.V
end
section
/- A function's own law. No condition. -/
namespace Go.Proofs.YtoeblmcibheldaaDoor.V
open Go Go.RowKit
/-- a result's value, as the state tells it -/
def rpv (T : List (Nat × TI)) (st : St) (rv : ResultVar) (agg : Bool) (s : Sh) : PV :=
 match rv with
 | .tmp t => ref st (.tmp t)
 | .cell b ty => match tget T ty with
  | some i => if i.agg = agg ∧ i.sh = s then match ref st (.tmp b) with
   | .adr g p => match look st g p with
    | some ⟨s', f, x⟩ => if s' = i.sh then loaded i.agg g p s' f x else .dead
    | none => .dead
   | .fadr s' x => if s' = i.sh then .v i.agg s' x else .dead
   | _ => .dead else .dead
  | none => .dead
/-- results, moved out: variable, struct or one cell, shape -/
def vgrabs (T : List (Nat × TI)) (st : St) : List (ResultVar × Bool × Sh) → Option (List Bool × ((s : Sh) × Fl × s.ty))
 | [] => some ([], ⟨.unit, .fz, ()⟩)
 | [(t, agg, s)] => match grab st agg s (rpv T st t agg s) with
  | some (f, x, _) => some ([agg], ⟨s, f, x⟩)
  | none => none
 | (t, agg, s) :: r => match grab st agg s (rpv T st t agg s) with
  | some (f, x, st') => match vgrabs T st' r with
   | some (aggs, ⟨s', f', x'⟩) => some (agg :: aggs, ⟨.pr s s', .pr f f', (x, x')⟩)
   | none => none
  | none => none
def vret (T : List (Nat × TI)) (st : St) : List (ResultVar × Bool × Sh) → Option PV
 | [(t, agg, s)] => match grab st agg s (rpv T st t agg s) with
  | some (f, x, _) => if s.plain || Fl.allfz s f then some (.v agg s x) else if agg || s.isSl then some (.root (.val agg) s f x) else none
  | none => none
 | l => match vgrabs T st l with
  | some (aggs, ⟨s, f, x⟩) => if tupOk aggs s then some (.root (.tup aggs) s f x) else none
  | none => none
def retV : List Value → Value
 | [v] => v
 | vs => .tuple vs.toArray
def rsem (tmps : Array Value) : ResultVar → Sem Value
 | .tmp t => pure (tmps.getD t undef)
 | .cell a t => do loadVar t (← asAddr (tmps.getD a undef))
section
variable {P : Program} {T : List (Nat × TI)} {L : Lay} {st st' : St} {a : Act} {w : World} {R : Nat → Prop}
theorem rpv_ok (hT : TabOk P T) (h : Rel L st a w R) {rv : ResultVar} {agg : Bool} {s : Sh} {f : Fl} {x : s.ty} {st' : St} (hg : grab st agg s (rpv T st rv agg s) = some (f, x, st')) : ∃ v, (rsem a.tmps rv).run P w = .ok v w ∧ ORep L st w (rpv T st rv agg s) v := by
 cases rv with
 | tmp t => exact ⟨_, rfl, h.opnd (.tmp t)⟩
 | cell b ty =>
  have dead : ∀ {pv : PV}, pv = .dead → grab st agg s pv = some (f, x, st') → False := fun e hg => by rw [e] at hg; simp [V.grab] at hg
  have hv := h.opnd (.tmp b)
  unfold rpv at hg ⊢
  simp only at hg ⊢
  split at hg
  ·rename_i i hi
   have hTt := hT ty i hi
   split at hg
   ·rename_i hc
    rw [if_pos hc]
    split at hg
    ·rename_i g p hx
     rw [hx] at hv
     split at hg
     ·rename_i s' f' y hl
      split at hg
      ·rename_i hs
       obtain ⟨s1, cs1, A, h1, h2⟩ := hv
       obtain rfl := h1.shape hl
       obtain ⟨q1, q2, B1, q3, q4⟩ := h.place h1 hl
       obtain ⟨v, r1, r2⟩ := run_loadVarAt (P := P) hTt q1 (by rw [q4.len, hs])
       have he : a.tmps.getD b undef = .pointer (some A) := h2
       refine ⟨v, by simp [rsem, he, asAddr, r1], ?_⟩
       rw [if_pos hs]
       unfold loaded
       by_cases hpl : (s'.plain || Fl.allfz s' f') = true
       ·rw [if_pos hpl]
        refine ⟨cs1, r2, ?_⟩
        simp only [Bool.or_eq_true] at hpl
        rcases hpl with hpl | hpl
        ·exact q4.plain hpl
        ·exact q4.allfz hpl
       ·rw [if_neg hpl]
        refine ⟨s', cs1, some A, h1, r2, fun hag => ?_⟩
        simp only [Bool.or_eq_true, not_or, Bool.not_eq_true] at hpl
        have hone := hTt.one hag
        rw [← hs] at hone
        cases s' with
        | sl _ _ => rfl
        | unit => simp [Sh.plain] at hpl
        | int _ => simp [Sh.plain] at hpl
        | bool => simp [Sh.plain] at hpl
        | str => simp [Sh.plain] at hpl
        | pr a b => exact absurd hpl.1 (by have := hTt.noPr hag; rw [← hs] at this; simp [Sh.isPr] at this)
      ·exact (dead rfl hg).elim
     ·exact (dead rfl hg).elim
    ·rename_i s' y hx
     rw [hx] at hv
     split at hg
     ·rename_i hs
      obtain ⟨ad, cs, h1, h2, h3, h4, h5⟩ := hv
      obtain ⟨v, r1, r2⟩ := run_loadVarAt (P := P) hTt (A := ad) (cs := cs) (fun A hA j hj => by obtain rfl := Option.some.inj hA; exact h4 j (by omega)) (by rw [h2, hs])
      have he : a.tmps.getD b undef = .pointer (some ad) := h1
      refine ⟨v, by simp [rsem, he, asAddr, r1], ?_⟩
      rw [if_pos hs]
      exact ⟨cs, r2, h5⟩
     ·exact (dead rfl hg).elim
    ·exact (dead rfl hg).elim
   ·exact (dead rfl hg).elim
  ·exact (dead rfl hg).elim
theorem vgrabs_ok (hT : TabOk P T) : ∀ (l : List (ResultVar × Bool × Sh)) {L : Lay} {st : St} {R : Nat → Prop}, Rel L st a w R → ∀ {aggs : List Bool} {s : Sh} {f : Fl} {x : s.ty}, vgrabs T st l = some (aggs, ⟨s, f, x⟩) →
  ∃ cs, ∃ B : Nat → Prop, Rep w L.Z s f x cs B ∧ (∀ b, B b → ¬ R b ∧ ∃ t, L.F t b) ∧ (tupV aggs s cs).length = l.length ∧ ∀ (i : Nat) (q : ResultVar × Bool × Sh) (v : Value), l[i]? = some q → (tupV aggs s cs)[i]? = some v → (rsem a.tmps q.1).run P w = .ok v w := by
 intro l
 induction l with
 | nil =>
  intro L st R h aggs s f x hg
  simp only [vgrabs, Option.some.injEq, Prod.mk.injEq, Sigma.mk.injEq] at hg
  obtain ⟨rfl, rfl, e⟩ := hg
  exact ⟨[], Free, rfl, fun b hb => hb.elim, rfl, fun i q v hi => by simp at hi⟩
 | cons q r ih =>
  intro L st R h aggs s f x hg
  obtain ⟨t, agg, s1⟩ := q
  have agV : ∀ {cs1 : List Value} {v : Value}, mkV agg cs1 v → aggV agg cs1 = v := by
   intro cs1 v hm
   cases agg with
   | true => simp only [mkV, if_true] at hm; simp [aggV, hm]
   | false => simp only [mkV, Bool.false_eq_true, if_false] at hm; subst hm; rfl
  cases r with
  | nil =>
   simp only [vgrabs] at hg
   split at hg
   ·rename_i f1 x1 st1 hg1
    obtain ⟨v1, hv1, ho1⟩ := rpv_ok hT h hg1
    obtain ⟨L', B1, cs1, g1, g2, g3, g4, g5, g6, g7⟩ := h.grab ho1 hg1
    simp only [Option.some.injEq, Prod.mk.injEq, Sigma.mk.injEq] at hg
    obtain ⟨rfl, rfl, e⟩ := hg
    obtain ⟨rfl, rfl⟩ := Prod.mk.inj (eq_of_heq e)
    refine ⟨cs1, B1, g5, g3, rfl, fun i q v hi hv => ?_⟩
    simp only [tupV] at hv
    rw [agV g4] at hv
    cases i with
    | zero => simp only [List.getElem?_cons_zero, Option.some.injEq] at hi hv; subst hi; subst hv; exact hv1
    | succ i => simp at hi
   ·cases hg
  | cons q2 r =>
   simp only [vgrabs] at hg
   split at hg
   ·rename_i f1 x1 st1 hg1
    obtain ⟨v1, hv1, ho1⟩ := rpv_ok hT h hg1
    obtain ⟨L', B1, cs1, g1, g2, g3, g4, g5, g6, g7⟩ := h.grab ho1 hg1
    split at hg
    ·rename_i aggs' s' f' x' hg2
     simp only [Option.some.injEq, Prod.mk.injEq, Sigma.mk.injEq] at hg
     obtain ⟨rfl, rfl, e⟩ := hg
     obtain ⟨rfl, rfl⟩ := Prod.mk.inj (eq_of_heq e)
     obtain ⟨cs2, B2, k1, k2, k3, k4⟩ := ih g2 hg2
     rw [g1.Z] at k1
     refine ⟨cs1 ++ cs2, fun b => B1 b ∨ B2 b, ⟨cs1, cs2, B1, B2, rfl, fun b hb => .inl hb, fun b hb => .inr hb, fun b h1 h2 => (k2 b h2).1 (.inr h1), g5, k1⟩, fun b hb => ?_, ?_⟩
     ·rcases hb with hb | hb
      ·exact g3 b hb
      ·refine ⟨fun hr => (k2 b hb).1 (.inl hr), ?_⟩
       obtain ⟨t', ht'⟩ := (k2 b hb).2
       exact g1.F t' b ht'
     ·match aggs', k3, k4 with
      | [], k3, _ => simp [tupV] at k3
      | g' :: r', k3, k4 =>
       have e : tupV (agg :: g' :: r') (Sh.pr s1 s') (cs1 ++ cs2) = v1 :: tupV (g' :: r') s' cs2 := by
        simp only [tupV]
        rw [List.take_left' g5.len, List.drop_left' g5.len, agV g4]
       refine ⟨by rw [e, List.length_cons, k3]; rfl, fun i q v hi hv => ?_⟩
       rw [e] at hv
       cases i with
       | zero => simp only [List.getElem?_cons_zero, Option.some.injEq] at hi hv; subst hi; subst hv; exact hv1
       | succ i => simp only [List.getElem?_cons_succ] at hi hv; exact k4 i q v hi hv
    ·cases hg
   ·cases hg
theorem results_run (fn : Func) (l : List (ResultVar × Bool × Sh)) (h : fn.results.toList = l.map fun q => q.1) (tmps : Array Value) (vs : List Value) (hl : vs.length = l.length) (hv : ∀ (i : Nat) (q : ResultVar × Bool × Sh) (v : Value), l[i]? = some q → vs[i]? = some v → (rsem tmps q.1).run P w = .ok v w) :
  (results fn tmps).run P w = .ok (retV vs) w := by
 have e : fn.results = (l.map fun q => q.1).toArray := by apply Array.ext'; simpa using h
 have key : ∀ (g : ResultVar → Sem Value), (∀ rv, g rv = rsem tmps rv) → ∀ (l : List (ResultVar × Bool × Sh)) (vs : List Value), vs.length = l.length → (∀ (i : Nat) (q : ResultVar × Bool × Sh) (v : Value), l[i]? = some q → vs[i]? = some v → (rsem tmps q.1).run P w = .ok v w) → Sem.run P (List.mapM g (l.map fun q => q.1)) w = Result.ok vs w := by
  intro g hg l
  induction l with
  | nil => intro vs hl _; obtain rfl := List.eq_nil_of_length_eq_zero hl; rfl
  | cons q r ih =>
   intro vs hl hv
   cases vs with
   | nil => simp at hl
   | cons v vs =>
    have h0 := hv 0 q v rfl rfl
    have h1 := ih vs (by simpa using hl) fun i q' v' hi hv' => hv (i + 1) q' v' (by simpa using hi) (by simpa using hv')
    simp only [List.map_cons, List.mapM_cons, hg, Sem.run_bind, h0, h1, Result.andThen_ok, Sem.run_pure]
 unfold results
 rw [e, List.mapM_toArray]
 simp only [map_eq_pure_bind, bind_assoc, pure_bind, Sem.run_bind]
 rw [key _ (fun rv => by cases rv <;> rfl) l vs hl hv]
 simp only [Result.andThen_ok]
 rcases vs with _ | ⟨v, _ | ⟨v2, vs⟩⟩ <;> rfl
theorem VC.of_body (hT : TabOk P T) {f : FuncId} {fn : Func} {c : Code} {args : List PV} {R : PV → Prop} (hf : P.funcs[f]? = some fn) (hb : fn.body = some c) (hnm : (fn.name == "runtime.NumGoroutine") = false) (res : List (ResultVar × Bool × Sh)) (hres : fn.results.toList = res.map fun q => q.1)
  (h : VW P c (args ++ List.replicate (fn.ntmps - args.length) .dead) (fun e st => (e = .ret ∨ e = .normal) ∧ ∃ pv, vret T st res = some pv ∧ R pv)) : VC P f args R := by
 refine ⟨⟨fn, hf, by rw [hb]; rfl, hnm⟩, fun Z w vals hz hl ha => ?_⟩
 refine calls_of_wp hf hb ?_
 have hr0 : Rel ⟨Z, fun _ => Free, fun _ => [], fun _ => none⟩ (args ++ List.replicate (fn.ntmps - args.length) .dead) { tmps := vals.toArray ++ Array.replicate (fn.ntmps - vals.toArray.size) undef, defers := [] } w Free := by
  refine ⟨by simp [hl], rfl, hz, fun t b hb => hb.elim, fun t t' b hb => hb.elim, fun b hb => hb.elim, fun t b hb => hb.elim, fun t ht => ?_⟩
  by_cases hlt : t < args.length
  ·have e1 : St.at (args ++ List.replicate (fn.ntmps - args.length) .dead) t = args[t] := by
    unfold St.at
    rw [List.getD_eq_getElem?_getD, List.getElem?_append_left hlt, List.getElem?_eq_getElem hlt]; rfl
   have hlv : t < vals.length := by omega
   have e2 : (vals.toArray ++ Array.replicate (fn.ntmps - vals.toArray.size) undef).getD t undef = vals[t] := by
    rw [Array.getD_eq_getD_getElem?, Array.getElem?_append_left (by simpa using hlv)]
    simp [hlv]
   have hA := ha t _ _ (List.getElem?_eq_getElem hlt) (List.getElem?_eq_getElem hlv)
   rw [e1]
   simp only [e2]
   cases hpv : args[t] with
   | v agg s x => rw [hpv] at hA; exact hA
   | emp => rw [hpv] at hA; exact hA
   | fadr s x => rw [hpv] at hA; exact hA
   | fn f caps =>
    rw [hpv] at hA
    obtain ⟨vs, q1, q2, q3⟩ := hA
    refine ⟨vs, q1, q2, fun i c u hc hu => ?_⟩
    obtain ⟨s, x, rfl, q4⟩ := q3 i c u hc hu
    exact q4
   | dead => trivial
   | h => rw [hpv] at hA; exact hA.elim
   | adr => rw [hpv] at hA; exact hA.elim
   | root => rw [hpv] at hA; exact hA.elim
  ·have e1 : St.at (args ++ List.replicate (fn.ntmps - args.length) .dead) t = .dead := by
    unfold St.at
    rw [List.getD_eq_getElem?_getD, List.getElem?_append_right (by omega), List.getElem?_replicate]
    split <;> rfl
   rw [e1]; trivial
 refine wp_mono (h _ _ w hr0) fun e a' w' ⟨L', st', s, r, he, pv, hp, hR⟩ => ?_
 have hext : Ext w w' := ⟨s.os, s.tape, s.output, s.size, fun b hb => s.block b hb (fun t ht => ht)⟩
 have hfresh : ∀ b, (∃ t, L'.F t b) → w.heap.size ≤ b ∧ b < w'.heap.size := by
  rintro b ⟨t, ht⟩
  refine ⟨?_, (r.flt t b ht).1⟩
  rcases s.F t b ht with ⟨_, q⟩ | q
  ·exact q.elim
  ·exact q
 have hZ : L'.Z = Z := s.Z
 have fin : a'.defers = [] ∧ ∃ v, (results fn a'.tmps).run P w' = .ok v w' ∧ ∃ v2 pv, Ending.returned v = .returned v2 ∧ Ext w w' ∧ R pv ∧ FRes w w' Z pv v2 := by
  have multi : (∀ q, res ≠ [q]) → ∀ {aggs s f x}, vgrabs T st' res = some (aggs, ⟨s, f, x⟩) → tupOk aggs s = true → R (.root (.tup aggs) s f x) → a'.defers = [] ∧ ∃ v, (results fn a'.tmps).run P w' = .ok v w' ∧ ∃ v2 pv, Ending.returned v = .returned v2 ∧ Ext w w' ∧ R pv ∧ FRes w w' Z pv v2 := by
   intro hne aggs s f x hg ht hR
   obtain ⟨cs, B, k1, k2, k3, k4⟩ := vgrabs_ok hT res r hg
   rw [hZ] at k1
   refine ⟨r.defers, _, results_run fn res hres a'.tmps _ k3 k4, _, _, rfl, hext, hR, cs, none, B, B, ⟨?_, ht, rfl⟩, fun _ h => h, (fun A hA => by cases hA), k1, fun b hb => hfresh b (k2 b hb).2⟩
   match hvs : tupV aggs s cs, res, hne, k3 with
   | [], _, _, _ => rfl
   | [v], [], _, k3 => simp at k3
   | [v], [q], hne, _ => exact absurd rfl (hne q)
   | [v], q :: q2 :: r', _, k3 => simp at k3
   | v :: v2 :: vs, _, _, _ => rfl
  match res, hp, multi, hres with
  | [], hp, multi, _ =>
   simp only [vret] at hp
   split at hp
   ·rename_i aggs s1 f x hg
    split at hp
    ·rename_i ht
     obtain rfl := Option.some.inj hp
     exact multi (fun q => by simp) hg ht hR
    ·cases hp
   ·cases hp
  | [(t, agg, s1)], hp, _, hres =>
   simp only [vret] at hp
   split at hp
   ·rename_i f x st1 hg
    obtain ⟨v1, hv1, ho1⟩ := rpv_ok hT r hg
    obtain ⟨L2, B1, cs1, g1, g2, g3, g4, g5, g6, g7⟩ := r.grab ho1 hg
    rw [hZ] at g5
    refine ⟨r.defers, _, results_run fn _ hres a'.tmps [v1] rfl (fun i q v hi hv => by
     cases i with
     | zero => simp only [List.getElem?_cons_zero, Option.some.injEq] at hi hv; subst hi; subst hv; exact hv1
     | succ i => simp at hi), _, pv, rfl, hext, hR, ?_⟩
    split at hp
    ·rename_i hpl
     obtain rfl := Option.some.inj hp
     refine ⟨cs1, g4, ?_⟩
     simp only [Bool.or_eq_true] at hpl
     rcases hpl with hpl | hpl
     ·exact g5.plain hpl
     ·exact g5.allfz hpl
    ·split at hp
     ·rename_i hag
      obtain rfl := Option.some.inj hp
      refine ⟨cs1, none, B1, B1, ⟨g4, fun e => ?_, rfl⟩, fun _ h => h, (fun A hA => by cases hA), g5, fun b hb => hfresh b (g3 b hb).2⟩
      subst e; simpa using hag
     ·cases hp
   ·cases hp
  | q :: q2 :: r', hp, multi, _ =>
   simp only [vret] at hp
   split at hp
   ·rename_i aggs s1 f x hg
    split at hp
    ·rename_i ht
     obtain rfl := Option.some.inj hp
     exact multi (fun q => by simp) hg ht hR
    ·cases hp
   ·cases hp
 rcases he with rfl | rfl
 ·exact fin
 ·exact fin
end
end Go.Proofs.YtoeblmcibheldaaDoor.V
end
section
/- Arguments of a row, read as typed values. No condition. -/
namespace Go.Proofs.YtoeblmcibheldaaDoor.V
open Go Go.RowKit Go.WideShapes Go.ChangeShapes
def wfS (P : Program) : (s : Sh) → s.ty → Prop
 | .unit, _ => True
 | .int k, x => (Lit.int k x).wf = true
 | .bool, _ => True
 | .str, x => ByteArray.size x ≤ 140737488351232
 | .sl e s, xs => List.length xs * P.bytesOf e ≤ 140737488351232 ∧ List.length xs ≤ maxLen ∧ ∀ x ∈ (xs : List s.ty), wfS P s x
 | .pr a b, x => wfS P a x.1 ∧ wfS P b x.2
section
variable {H : Type} {enc : TypeId × Value → H} {P : Program}
def InZ (W : World) (b : Nat) : Prop := b < W.heap.size
/-- What can be read as data of type t is a value of shape s. -/
def Reads (enc : TypeId × Value → H) (P : Program) (t : TypeId) (s : Sh) : Prop :=
 ∀ (W : World) (fuel : Nat) (cs : List Value) (dd : DataW H) (p : List MemPlace), DataW.trod enc P W 0 (fun _ => true) true fuel t cs = some (dd, p) → (∀ n ∈ dd.weights P t, n ≤ reachBytes) → ∃ x : s.ty, Rep W (InZ W) s .fz x cs (fun _ => False) ∧ wfS P s x
theorem reads_int {t : TypeId} {k : IntKind} (ht : P.underlying t = some (.int k)) : Reads enc P t (.int k) := by
 intro W fuel cs dd p h hw
 cases fuel with
 | zero => simp [DataW.trod] at h
 | succ n =>
  unfold DataW.trod at h
  rw [ht] at h
  split at h <;> simp_all
  obtain ⟨⟨e, h1⟩, rfl, rfl⟩ := h
  rename_i hk0
  subst hk0
  exact ⟨_, rfl, h1⟩
theorem reads_bool {t : TypeId} (ht : P.underlying t = some .bool) : Reads enc P t .bool := by
 intro W fuel cs dd p h hw
 cases fuel with
 | zero => simp [DataW.trod] at h
 | succ n =>
  unfold DataW.trod at h
  rw [ht] at h
  split at h
  all_goals first
   | (injections; done)
   | (exact ⟨_, rfl, trivial⟩)
   | simp_all
theorem reads_string {t : TypeId} (ht : P.underlying t = some .string) : Reads enc P t .str := by
 intro W fuel cs dd p h hw
 cases fuel with
 | zero => simp [DataW.trod] at h
 | succ n =>
  unfold DataW.trod at h
  rw [ht] at h
  split at h <;> simp_all
  obtain ⟨h1, rfl, rfl⟩ := h
  refine ⟨_, rfl, ?_⟩
  have := hw _ (by simp [DataW.weights]; rfl)
  simpa [wfS, reachBytes] using this
theorem weightsAll_mem' {e : TypeId} : ∀ {l : List (DataW H)} {x : DataW H} {n : Nat}, x ∈ l → n ∈ x.weights P e → n ∈ DataW.weightsAll P e l
 | [], _, _, h, _ => by simp at h
 | y :: l, x, n, h, hn => by
  simp only [DataW.weightsAll, List.mem_append]
  rcases List.mem_cons.1 h with rfl | h
  ·exact .inl hn
  ·exact .inr (weightsAll_mem' h hn)
theorem cells?_cell' {w : World} {a : Addr} {n : Nat} {cs : List Value} (h : w.cells? 0 a n = some cs) : cs.length = n ∧ ∀ (i : Nat) (u : Value), cs[i]? = some u → w.cell? (a.add i) = some u := by
 unfold World.cells? at h
 rw [if_pos (Nat.zero_le _)] at h
 have hl : cs.length = n := by have := mapM_some_length h; simpa using this
 refine ⟨hl, fun i u hu => ?_⟩
 have hi : i < cs.length := (List.getElem?_eq_some_iff.1 hu).1
 have := mapM_some_get h i i (by rw [List.getElem?_range (by omega)])
 rw [this, hu]
theorem reads_slice {t e : TypeId} {s : Sh} (ht : P.underlying t = some (.slice e)) (hd : P.cellsOf e = s.size) (hp : 0 < s.size) (he : Reads enc P e s) : Reads enc P t (.sl e s) := by
 intro W fuel cs dd p h hw
 rcases DataW.trod_slice ht h with ⟨rfl, hx⟩ | ⟨a, len, cap, elems, rest, n, rfl, rfl, hx, hb, hl, hm, hel, hget, _, _⟩
 ·exact ⟨[], ⟨none, 0, rfl, Nat.le_refl _, Nat.zero_le _, fun h => absurd h (by simp)⟩, by simp, by simp, by simp⟩
 ·obtain ⟨rfl, rfl⟩ := Prod.mk.inj hx
  rw [hd] at hget
  have hwl : (elems.length + rest.length) * P.bytesOf e ≤ reachBytes := hw _ (by simp [DataW.weights, ht])
  have hwe : ∀ y ∈ elems, ∀ m ∈ y.1.weights P e, m ≤ reachBytes := fun y hy m hm => hw m (by
   simp only [DataW.weights, ht]
   exact List.mem_cons_of_mem _ (List.mem_append_left _ (weightsAll_mem' (List.mem_map_of_mem hy) hm)))
  have key : ∀ i, i < len → ∃ x c, wfS P s x ∧ Rep W (InZ W) s .fz x c (fun _ => False) ∧ c.length = s.size ∧ ∀ j, j < s.size → W.cell? (a.add (i * s.size + j)) = c[j]? := by
   intro i hi
   have hg := hget i hi
   rw [List.getElem?_eq_getElem (by omega)] at hg
   obtain ⟨c, hc, htr⟩ := Option.bind_eq_some_iff.1 hg
   obtain ⟨hcl, hcc⟩ := cells?_cell' hc
   obtain ⟨x, hk, hx⟩ := he W n c _ _ htr (hwe _ (List.getElem_mem _))
   refine ⟨x, c, hx, hk, hcl, fun j hj => ?_⟩
   have := hcc j _ (List.getElem?_eq_getElem (by omega))
   rw [add_add] at this
   rw [this, List.getElem?_eq_getElem (by omega)]
  have build : ∀ m, m ≤ len → ∃ l : List s.ty, l.length = m ∧ (∀ x ∈ l, wfS P s x) ∧ ∀ (j : Nat) (x : s.ty), l[j]? = some x → ∃ c : List Value, c.length = s.size ∧ (∀ i, i < s.size → W.cell? (a.add (j * s.size + i)) = c[i]?) ∧ Rep W (InZ W) s .fz x c (fun _ => False) := by
   intro m
   induction m with
   | zero => intro _; exact ⟨[], rfl, by simp, by simp⟩
   | succ m ih =>
    intro hm1
    obtain ⟨l, hl1, hl2, hl3⟩ := ih (by omega)
    obtain ⟨x, c, hx, hk, hcl, hcc⟩ := key m (by omega)
    refine ⟨l ++ [x], by simp [hl1], ?_, ?_⟩
    ·intro y hy
     rcases List.mem_append.1 hy with hy | hy
     ·exact hl2 y hy
     ·rw [List.mem_singleton.1 hy]; exact hx
    ·intro j y hj
     rcases Nat.lt_or_ge j m with hjm | hjm
     ·rw [List.getElem?_append_left (by omega)] at hj
      exact hl3 j y hj
     ·rw [List.getElem?_append_right (by omega), hl1] at hj
      have hj0 : j - m = 0 := by
       have := (List.getElem?_eq_some_iff.1 hj).1
       simp at this
       omega
      obtain rfl : j = m := by omega
      rw [hj0] at hj
      simp at hj
      subst hj
      exact ⟨c, hcl, hcc, hk⟩
  obtain ⟨l, hl1, hl2, hl3⟩ := build len (Nat.le_refl _)
  have hlen : l.length ≤ maxLen := by omega
  refine ⟨l, ⟨some a, cap, by rw [hl1], by omega, hlen, fun hpos => ⟨a, rfl, ?_, fun i hi => ?_⟩⟩, ?_, hlen, hl2⟩
  ·obtain ⟨c, q1, q2, _⟩ := hl3 0 _ (List.getElem?_eq_getElem hpos)
   have h1 := q2 0 hp
   rw [List.getElem?_eq_getElem (by omega)] at h1
   obtain ⟨_, cur, e', fr, h2⟩ := cell_some h1
   rw [add_block] at h2
   exact (Array.getElem?_eq_some_iff.1 h2).1
  ·obtain ⟨c, q1, q2, q3⟩ := hl3 i _ (List.getElem?_eq_getElem hi)
   refine ⟨c, q1, q2, ?_⟩
   have : l.getD i s.zero = l[i] := by rw [List.getD_eq_getElem?_getD, List.getElem?_eq_getElem hi]; rfl
   rw [this]; exact q3
  ·have : l.length * P.bytesOf e ≤ (elems.length + rest.length) * P.bytesOf e := Nat.mul_le_mul_right _ (by omega)
   simp only [reachBytes] at hwl
   omega
def fieldsB (P : Program) (r : TypeId → Sh → Bool) : List Field → Sh → Nat → Bool
 | [f], s, o => decide (f.offset = o) && decide (P.cellsOf f.type = s.size) && r f.type s
 | f :: g :: fs, .pr a b, o => decide (f.offset = o) && decide (P.cellsOf f.type = a.size) && r f.type a && fieldsB P r (g :: fs) b (o + a.size)
 | _, _, _ => false
def rdB (P : Program) : Nat → TypeId → Sh → Bool
 | 0, _, _ => false
 | n + 1, t, s => match P.underlying t with
  | some (.int k) => decide (s = .int k)
  | some .bool => decide (s = .bool)
  | some .string => decide (s = .str)
  | some (.slice e) => match s with
   | .sl e' s' => decide (e = e') && decide (P.cellsOf e = s'.size) && decide (0 < s'.size) && rdB P n e s'
   | _ => false
  | some (.struct fs) => decide (P.cellsOf t = s.size) && fieldsB P (rdB P n) fs.toList s 0
  | _ => false
theorem reads_fields {r : TypeId → Sh → Bool} (hr : ∀ t s, r t s = true → Reads enc P t s) : ∀ (fs : List Field) (s : Sh) (o : Nat), fieldsB P r fs s o = true → ∀ (W : World) (n : Nat) (cs : List Value) (xs : List (DataW H × List MemPlace)), cs.length = o + s.size → xs.length = fs.length →
  (∀ (i : Nat) (f : Field), fs[i]? = some f → DataW.trod enc P W 0 (fun _ => true) true n f.type ((cs.drop f.offset).take (P.cellsOf f.type)) = xs[i]?) → (∀ m ∈ DataW.weightsEach P (fs.map (·.type)) (xs.map (·.1)), m ≤ reachBytes) → ∃ x : s.ty, Rep W (InZ W) s .fz x (cs.drop o) (fun _ => False) ∧ wfS P s x
 | [], s, o, h => by cases s <;> simp [fieldsB] at h
 | [f], s, o, h => by
  intro W n cs xs hl hx hf hw
  have h' : (decide (f.offset = o) && decide (P.cellsOf f.type = s.size) && r f.type s) = true := by cases s <;> exact h
  simp only [Bool.and_eq_true, decide_eq_true_eq] at h'
  obtain ⟨⟨h0, hs⟩, h1⟩ := h'
  match xs, hx with
  | [y], _ =>
   have := hf 0 f rfl
   simp only [List.getElem?_cons_zero] at this
   obtain ⟨x, hk, hx⟩ := hr _ _ h1 W n _ _ _ this (fun m hm => hw m (by simp [DataW.weightsEach]; exact hm))
   rw [h0, hs, List.take_of_length_le (by simp; omega)] at hk
   exact ⟨x, hk, hx⟩
 | f :: g :: fs, s, o, h => by
  intro W n cs xs hl hx hf hw
  cases s with
  | pr a b =>
   simp only [fieldsB, Bool.and_eq_true, decide_eq_true_eq] at h
   obtain ⟨⟨⟨h0, hs⟩, h1⟩, h2⟩ := h
   match xs, hx with
   | y :: ys, hx =>
    have h3 := hf 0 f rfl
    simp only [List.getElem?_cons_zero] at h3
    obtain ⟨x, hk, hwx⟩ := hr _ _ h1 W n _ _ _ h3 (fun m hm => hw m (by simp only [List.map_cons, DataW.weightsEach, List.mem_append]; exact .inl hm))
    simp only [Sh.size] at hl
    obtain ⟨x', hk', hwx'⟩ := reads_fields hr (g :: fs) b (o + a.size) h2 W n cs ys (by omega) (by simpa using hx) (fun i f' hf' => by have := hf (i + 1) f' (by simpa using hf'); simpa using this) (fun m hm => hw m (by simp only [List.map_cons, DataW.weightsEach, List.mem_append] at hm ⊢; exact .inr hm))
    rw [h0, hs] at hk
    refine ⟨(x, x'), ⟨_, _, fun _ => False, fun _ => False, ?_, fun _ h => h, fun _ h => h, fun _ h _ => h, hk, hk'⟩, hwx, hwx'⟩
    rw [← List.drop_drop, List.take_append_drop]
  | unit => simp [fieldsB] at h
  | int _ => simp [fieldsB] at h
  | bool => simp [fieldsB] at h
  | str => simp [fieldsB] at h
  | sl _ _ => simp [fieldsB] at h
theorem reads_ok : ∀ (n : Nat) (t : TypeId) (s : Sh), rdB P n t s = true → Reads enc P t s := by
 intro n
 induction n with
 | zero => intro t s h; cases h
 | succ n ih =>
  intro t s h
  unfold rdB at h
  split at h
  ·rename_i k ht
   obtain rfl := of_decide_eq_true h
   exact reads_int ht
  ·rename_i ht
   obtain rfl := of_decide_eq_true h
   exact reads_bool ht
  ·rename_i ht
   obtain rfl := of_decide_eq_true h
   exact reads_string ht
  ·rename_i e ht
   split at h
   ·rename_i e' s'
    simp only [Bool.and_eq_true, decide_eq_true_eq] at h
    obtain ⟨⟨⟨rfl, h1⟩, h2⟩, h3⟩ := h
    exact reads_slice ht h1 h2 (ih _ _ h3)
   ·cases h
  ·rename_i fs ht
   simp only [Bool.and_eq_true, decide_eq_true_eq] at h
   obtain ⟨h1, h2⟩ := h
   intro W fuel cs dd p hh hw
   obtain ⟨xs, n', rfl, hx, hl, hlen, hf⟩ := DataW.trod_struct ht hh
   obtain ⟨rfl, rfl⟩ := Prod.mk.inj hx
   obtain ⟨x, hk, hwx⟩ := reads_fields ih fs.toList s 0 h2 W n' cs xs (by omega) (by simpa using hlen) (fun i f hfi => hf i f (by simpa using hfi)) (fun m hm => hw m (by simp only [DataW.weights, ht]; exact hm))
   exact ⟨x, by simpa using hk, hwx⟩
  ·cases h
/-- An argument of a row. -/
theorem Reads.arg {t : TypeId} {s : Sh} (h : Reads enc P t s) {W : World} {v : Value} {dd : DataW H} {p : List MemPlace} {ts : List TypeId} {ds : List (DataW H)} {j : Nat} {agg : Bool} (hv : mkV agg v.cells.toList v)
  (hsz : (DataW.weightsEach P ts ds).all (· ≤ reachBytes) = true) (ht : ts[j]? = some t) (hd : ds[j]? = some dd) (hr : DataW.Trod enc P W 0 (fun _ => true) true t v dd p) : ∃ x : s.ty, ARep W (InZ W) (.v agg s x) v ∧ wfS P s x := by
 obtain ⟨fuel, hf⟩ := hr
 obtain ⟨x, h1, h2⟩ := h W fuel _ _ _ hf (fun n hn => by have := List.all_eq_true.1 hsz n (DataW.weights_mem_each ht hd n hn); simpa using this)
 exact ⟨x, ⟨_, hv, h1⟩, h2⟩
/-- all the arguments -/
def AAll (w : World) (Z : Nat → Prop) (args : List PV) (vals : List Value) : Prop := vals.length = args.length ∧ ∀ (i : Nat) (pv : PV) (v : Value), args[i]? = some pv → vals[i]? = some v → ARep w Z pv v
theorem AAll.nil (w : World) (Z : Nat → Prop) : AAll w Z [] [] := ⟨rfl, fun i pv v hi => by simp at hi⟩
theorem AAll.cons {w : World} {Z : Nat → Prop} {pv : PV} {v : Value} {args : List PV} {vals : List Value} (h : ARep w Z pv v) (k : AAll w Z args vals) : AAll w Z (pv :: args) (v :: vals) := by
 refine ⟨by simp [k.1], fun i pv' v' hi hv => ?_⟩
 cases i with
 | zero => simp only [List.getElem?_cons_zero, Option.some.injEq] at hi hv; subst hi; subst hv; exact h
 | succ i => simp only [List.getElem?_cons_succ] at hi hv; exact k.2 i pv' v' hi hv
theorem GOk.start {W : World} (h : ∀ p, p ∈ gls → ∃ cs x y, W.heap[p.1]? = some (.cells cs x y) ∧ p.2 cs) : GOk (InZ W) W := fun p hp => by
 obtain ⟨cs, x, y, e, e2⟩ := h p hp
 refine ⟨?_, cs, x, y, e, e2⟩
 rcases Nat.lt_or_ge p.1 W.heap.size with hl | hl
 ·exact hl
 ·rw [Array.getElem?_eq_none hl] at e; cases e
/-- a law's row: the call returns true -/
theorem row_calls {W : World} (hg : GOk (InZ W) W) {f : FuncId} {args : List PV} {vals : List Value} (h : VC P f args (· = .v false .bool true)) (ha : AAll W (InZ W) args vals) : Calls P f vals.toArray W fun e w' => e = .returned (.bool true) ∧ Below W.heap.size W w' := by
 refine (h.run (InZ W) W vals ⟨fun b hb => hb, hg⟩ ha.1 ha.2).mono fun e w' ⟨v, pv, h1, h2, h3, h4⟩ => ?_
 subst h3
 obtain ⟨cs, m1, m2⟩ := (h4 : ARep w' _ (.v false .bool true) v)
 simp only [Rep] at m2
 subst m2
 have : v = .bool true := by simpa [mkV] using m1.symm
 rw [h1, this]
 exact ⟨rfl, h2.os, h2.tape, h2.output, h2.size, fun k hk => h2.block k hk⟩
end
end Go.Proofs.YtoeblmcibheldaaDoor.V
end
section
/- The law of a function that writes what it is handed. No condition. -/
namespace Go.Proofs.YtoeblmcibheldaaDoor.V
open Go Go.RowKit
/-- the cells that a value with known slices has -/
def encI : (s : Sh) → Fl → s.ty → Option (List Value)
 | .unit, _, _ => some []
 | .int k, _, x => some [.int k x]
 | .bool, _, x => some [.bool x]
 | .str, _, x => some [.string x]
 | .pr a b, f, x => match encI a f.l x.1, encI b f.r x.2 with
  | some c, some d => some (c ++ d)
  | _, _ => none
 | .sl _ s, f, xs => match f with
  | .io n c => some [.slice (some ⟨n, 0, none⟩) (List.length (α := s.ty) xs) c]
  | .kz A c => some [.slice A (List.length (α := s.ty) xs) c]
  | _ => none
theorem Rep.encI {w : World} {Z : Nat → Prop} : ∀ {s : Sh} {f : Fl} {x : s.ty} {cs l : List Value} {B : Nat → Prop}, Rep w Z s f x cs B → encI s f x = some l → cs = l
 | .unit, _, _, _, _, _, h, k => by have h : _ = [] := h; rw [h]; simpa [V.encI] using k
 | .int _, _, _, _, _, _, h, k => by have h : _ = [_] := h; rw [h]; simpa [V.encI] using k
 | .bool, _, _, _, _, _, h, k => by have h : _ = [_] := h; rw [h]; simpa [V.encI] using k
 | .str, _, _, _, _, _, h, k => by have h : _ = [_] := h; rw [h]; simpa [V.encI] using k
 | .pr a b, f, x, cs, l, B, h, k => by
  obtain ⟨c1, c2, B1, B2, rfl, h1, h2, h3, h4, h5⟩ := h
  simp only [V.encI] at k
  split at k
  ·rename_i c d e1 e2
   rw [h4.encI e1, h5.encI e2]
   exact Option.some.inj k
  ·cases k
 | .sl e s, f, xs, cs, l, B, h, k => by
  cases f with
  | io n c =>
   rw [h.2]
   exact Option.some.inj k
  | kz A c =>
   rw [h.2]
   exact Option.some.inj k
  | _ => simp [V.encI] at k
/-- known slices are one's own -/
def Fl.untag : Sh → Fl → Fl
 | .pr a b, f => .pr (Fl.untag a f.l) (Fl.untag b f.r)
 | .sl _ _, f => match f with
  | .io _ _ => .own
  | .kz _ _ => .fz
  | f => f
 | _, f => f
theorem Rep.untag {w : World} {Z : Nat → Prop} : ∀ {s : Sh} {f : Fl} {x : s.ty} {cs : List Value} {B : Nat → Prop}, Rep w Z s f x cs B → Rep w Z s (Fl.untag s f) x cs B
 | .unit, _, _, _, _, h => h
 | .int _, _, _, _, _, h => h
 | .bool, _, _, _, _, h => h
 | .str, _, _, _, _, h => h
 | .pr a b, f, x, cs, B, ⟨c1, c2, B1, B2, h0, h1, h2, h3, h4, h5⟩ => ⟨c1, c2, B1, B2, h0, h1, h2, h3, h4.untag, h5.untag⟩
 | .sl e s, f, xs, cs, B, h => by
  cases f with
  | io n c => exact h.1
  | kz A c => exact h.1
  | _ => exact h
/-- the result, moved out, and the state behind it -/
def vretX (T : List (Nat × TI)) (st : St) : List (ResultVar × Bool × Sh) → Option (PV × St)
 | [] => some (.root (.tup []) .unit .fz (), st)
 | [(t, agg, s)] => match grab st agg s (rpv T st t agg s) with
  | some (f, x, st') => if s.plain || Fl.allfz s f then some (.v agg s x, st') else if agg || s.isSl then some (.root (.val agg) s f x, st') else none
  | none => match t with
   | .tmp t0 => match ref st (.tmp t0) with
    | .adr g [] => match st.at g with
     | .root (.box ty) s' f x => some (.root (.box ty) s' f x, (st.map (V.drop g)).set g .dead)
     | _ => none
    | _ => none
   | _ => none
 | _ => none
section
variable {P : Program} {T : List (Nat × TI)}
/-- what is left of what was handed over: A as it came, ot as it goes -/
def OutOk (A : PV) (st2 : St) (ot : PV) : Prop := ∀ (L : Lay) (a : Act) (w' : World) (R : Nat → Prop), Rel L st2 a w' R → ∀ (w : World) (Z F : Nat → Prop) (v : Value), GRep w Z F A v → ot = .dead ∨ ∃ g, GRep w' L.Z (L.F g) ot v
theorem OutOk.dead {A : PV} {st2 : St} : OutOk A st2 .dead := fun _ _ _ _ _ _ _ _ _ _ => .inl rfl
theorem OutOk.box {st2 : St} {t b g : Nat} {s : Sh} {f f' : Fl} {x x' : s.ty} (h : st2.at g = .root (.ibox t b) s f' x') : OutOk (.root (.ibox t b) s f x) st2 (.root (.box t) s f' x') := by
 intro L a w' R hr w Z F v ⟨cs, ad, B, r1, _⟩
 obtain ⟨q1, B', q2, q3, q4⟩ := hr.root h
 exact .inr ⟨g, L.C g, L.D g, B', ⟨b, r1.1, q1.2.1, q1.2.2⟩, q2, q3, q4⟩
theorem OutOk.val {st2 : St} {g : Nat} {agg : Bool} {k : RK} {s : Sh} {f f' : Fl} {x x' : s.ty} {l : List Value} (h : st2.at g = .root k s f' x') (h1 : encI s f x = some l) (h2 : encI s f' x' = some l) : OutOk (.root (.val agg) s f x) st2 (.root (.val agg) s (Fl.untag s f') x') := by
 intro L a w' R hr w Z F v ⟨cs, ad, B, r1, r2, r3, r4⟩
 obtain ⟨q1, B', q2, q3, q4⟩ := hr.root h
 obtain rfl := r4.encI h1
 have e := q4.encI h2
 refine .inr ⟨g, cs, none, B', ⟨r1.1, r1.2.1, rfl⟩, q2, (fun A hA => by cases hA), ?_⟩
 rw [← e]
 exact q4.untag
theorem vretX_ok (hT : TabOk P T) {L : Lay} {st : St} {a : Act} {w : World} (r : Rel L st a w Free) (fn : Func) (res : List (ResultVar × Bool × Sh)) (hres : fn.results.toList = res.map fun q => q.1) {pv : PV} {st2 : St} (hp : vretX T st res = some (pv, st2)) :
  ∃ v, (results fn a.tmps).run P w = .ok v w ∧ ∃ L2, ∃ R : Nat → Prop, Rel L2 st2 a w R ∧ L2.Z = L.Z ∧ (∀ t b, L2.F t b → ∃ t', L.F t' b) ∧ (∀ b, R b → ∃ t, L.F t b) ∧ GRep w L.Z R pv v := by
 match res, hp, hres with
 | [], hp, hres =>
  simp only [vretX, Option.some.injEq, Prod.mk.injEq] at hp
  obtain ⟨rfl, rfl⟩ := hp
  exact ⟨_, results_run fn [] hres a.tmps [] rfl (fun i q v hi => by simp at hi), L, Free, r, rfl, fun t b hb => ⟨t, hb⟩, fun b hb => hb.elim, [], none, Free, ⟨rfl, rfl, rfl⟩, fun _ h => h, (fun A hA => by cases hA), rfl⟩
 | [(t, agg, s)], hp, hres =>
  simp only [vretX] at hp
  split at hp
  ·rename_i f x st1 hg
   obtain ⟨v1, hv1, ho1⟩ := rpv_ok hT r hg
   obtain ⟨L2, B1, cs1, g1, g2, g3, g4, g5, g6, g7⟩ := r.grab ho1 hg
   have g2 : Rel L2 st1 a w B1 := g2.freeR fun b hb => .inr hb
   have hrun := results_run (P := P) (w := w) fn _ hres a.tmps [v1] rfl (fun i q v hi hv => by
     cases i with
     | zero => simp only [List.getElem?_cons_zero, Option.some.injEq] at hi hv; subst hi; subst hv; exact hv1
     | succ i => simp at hi)
   refine ⟨v1, hrun, L2, B1, ?_⟩
   split at hp
   ·rename_i hpl
    obtain ⟨rfl, rfl⟩ := Prod.mk.inj (Option.some.inj hp)
    refine ⟨g2, g1.Z, g1.F, fun b hb => (g3 b hb).2, cs1, g4, ?_⟩
    simp only [Bool.or_eq_true] at hpl
    rcases hpl with hpl | hpl
    ·exact g5.plain hpl
    ·exact g5.allfz hpl
   ·split at hp
    ·rename_i hag
     obtain ⟨rfl, rfl⟩ := Prod.mk.inj (Option.some.inj hp)
     refine ⟨g2, g1.Z, g1.F, fun b hb => (g3 b hb).2, cs1, none, B1, ⟨g4, fun e => ?_, rfl⟩, fun _ h => h, (fun A hA => by cases hA), g5⟩
     subst e; simpa using hag
    ·cases hp
  ·split at hp
   ·rename_i t0 _
    split at hp
    ·rename_i g hr
     split at hp
     ·rename_i ty s' f x hg
      obtain ⟨rfl, rfl⟩ := Prod.mk.inj (Option.some.inj hp)
      have hv := r.opnd (.tmp t0)
      rw [hr] at hv
      obtain ⟨s1, cs1, A, hP, hptr⟩ := hv
      obtain ⟨k', s0, f0, x0, hg', _, _, hsub⟩ := hP
      rw [sub_nil] at hsub
      obtain ⟨hC, hD⟩ := Prod.mk.inj (Option.some.inj hsub)
      obtain ⟨⟨b, m1, m2, m3⟩, B, q2, q3, q4⟩ := r.root hg
      rw [hD] at m3
      obtain ⟨_, rg, _, _⟩ := r.gone hg
      refine ⟨a.tmps.getD t0 undef, results_run fn _ hres a.tmps [a.tmps.getD t0 undef] rfl (fun i q v hi hv => ?_), _, L.F g, rg.freeR (fun b hb => .inr hb), rfl, fun t b hb => ?_, fun b hb => ⟨g, hb⟩, L.C g, L.D g, B, ⟨b, ?_, m2, by rw [hD]; exact m3⟩, q2, q3, q4⟩
      ·cases i with
       | zero => simp only [List.getElem?_cons_zero, Option.some.injEq] at hi hv; subst hi; subst hv; rfl
       | succ i => simp at hi
      ·simp only at hb
       split at hb
       ·exact hb.elim
       ·exact ⟨t, hb⟩
      ·have : a.tmps.getD t0 undef = .pointer (some A) := hptr
       rw [this, Option.some.inj m3]
     ·cases hp
    ·cases hp
   ·cases hp
theorem VX.of_body (hT : TabOk P T) {f : FuncId} {fn : Func} {c : Code} {args : List PV} {i : Nat} {R : PV → PV → Prop} (hf : P.funcs[f]? = some fn) (hb : fn.body = some c) (hnm : (fn.name == "runtime.NumGoroutine") = false) (res : List (ResultVar × Bool × Sh)) (hres : fn.results.toList = res.map fun q => q.1)
  {ι : Type} (A : ι → PV) (hA : ∀ pvi, args[i]? = some pvi → ∀ (w : World) (Z F : Nat → Prop) (v : Value), GRep w Z F pvi v → ∃ j, GRep w Z F (A j) v)
  (h : ∀ j, VW P c (args.set i (A j) ++ List.replicate (fn.ntmps - args.length) .dead) (fun e st => (e = .ret ∨ e = .normal) ∧ ∃ pv st2 ot, vretX T st res = some (pv, st2) ∧ OutOk (A j) st2 ot ∧ R pv ot)) (hi : i < args.length) : VX P f args i R := by
 refine ⟨⟨fn, hf, by rw [hb]; rfl, hnm⟩, fun Z F w vals hz hFz hl ha hg => ?_⟩
 refine calls_of_wp hf hb ?_
 have hil : i < vals.length := by omega
 obtain ⟨j, hj⟩ := hA _ (List.getElem?_eq_getElem hi) w Z F _ (hg _ _ (List.getElem?_eq_getElem hi) (List.getElem?_eq_getElem hil))
 have hAt : ∀ t, St.at (args.set i (A j) ++ List.replicate (fn.ntmps - args.length) .dead) t = if t = i then A j else (args ++ List.replicate (fn.ntmps - args.length) PV.dead).getD t .dead := by
  intro t
  unfold St.at
  rw [List.getD_eq_getElem?_getD, List.getD_eq_getElem?_getD]
  by_cases e : t = i
  ·subst e
   rw [if_pos rfl, List.getElem?_append_left (by simpa using hi), List.getElem?_set_self hi]; rfl
  ·rw [if_neg e]
   by_cases hlt : t < args.length
   ·rw [List.getElem?_append_left (by simpa using hlt), List.getElem?_append_left hlt, List.getElem?_set_ne (fun h => e h.symm)]
   ·rw [List.getElem?_append_right (by simp; omega), List.getElem?_append_right (by omega)]
    simp
 have hval : ∀ t, t < vals.length → (vals.toArray ++ Array.replicate (fn.ntmps - vals.toArray.size) undef).getD t undef = vals.getD t undef := by
  intro t hlt
  rw [Array.getD_eq_getD_getElem?, Array.getElem?_append_left (by simpa using hlt)]
  simp [hlt]
 have hval2 : ∀ t (ht : t < vals.length), vals.getD t undef = vals[t] := fun t ht => by rw [List.getD_eq_getElem?_getD, List.getElem?_eq_getElem ht]; rfl
 have hout : ∀ {pv : PV} {v : Value} {L : Lay} {st : St}, L.Z = Z → pv.isRoot = false → GRep w Z F pv v → ORep L st w pv v := by
  intro pv v L st hLZ hnr hr
  cases pv with
  | v agg s x => rw [← hLZ] at hr; exact hr
  | emp => exact hr
  | fadr s x => rw [← hLZ] at hr; exact hr
  | fn f caps =>
   obtain ⟨vs, q1, q2, q3⟩ := hr
   refine ⟨vs, q1, q2, fun i c u hc hu => ?_⟩
   obtain ⟨s, x, rfl, q4⟩ := q3 i c u hc hu
   show FaRep w L.Z s x u
   rw [hLZ]; exact q4
  | dead => trivial
  | h => exact (hr : False).elim
  | adr => exact (hr : False).elim
  | root => cases hnr
 obtain ⟨C0, D0, hCD⟩ : ∃ C0 D0, ∀ k s f x, A j = .root k s f x → ∃ B : Nat → Prop, RootAt w k s (vals.getD i undef) C0 D0 ∧ (∀ b, B b → F b) ∧ (∀ A, D0 = some A → ¬ B A.block ∧ F A.block) ∧ Rep w Z s f x C0 B := by
  rcases PV.root_or (A j) with ⟨k, s, f, x, hp⟩ | hp
  ·rw [hp] at hj
   obtain ⟨cs, ad, B, q⟩ := hj
   refine ⟨cs, ad, fun k' s' f' x' e => ?_⟩
   rw [hp] at e
   cases e
   exact ⟨B, by rw [hval2 i hil]; exact q.1, q.2⟩
  ·exact ⟨[], none, fun k s f x e => by rw [e] at hp; cases hp⟩
 let L0 : Lay := ⟨Z, fun t b => t = i ∧ F b ∧ (A j).isRoot = true, fun _ => C0, fun _ => D0⟩
 have hr0 : Rel L0 (args.set i (A j) ++ List.replicate (fn.ntmps - args.length) .dead) { tmps := vals.toArray ++ Array.replicate (fn.ntmps - vals.toArray.size) undef, defers := [] } w Free := by
  refine ⟨by simp [hl], rfl, hz, fun t b hb => hFz b hb.2.1, fun t t' b hb hb' => hb.1.trans hb'.1.symm, fun b hb => hb.elim, fun t b hb => id, fun t ht => ?_⟩
  rw [hAt]
  by_cases e : t = i
  ·subst e
   rw [if_pos rfl]
   show PVRep L0 _ w t (A j) ((vals.toArray ++ Array.replicate (fn.ntmps - vals.toArray.size) undef).getD t undef)
   rw [hval t hil]
   rcases PV.root_or (A j) with ⟨k, s, f, x, hp⟩ | hp
   ·obtain ⟨B, m1, m2, m3, m4⟩ := hCD k s f x hp
    rw [hp]
    exact ⟨m1, B, fun b hb => ⟨rfl, m2 b hb, by rw [hp]; rfl⟩, fun A1 hA1 => ⟨(m3 A1 hA1).1, rfl, (m3 A1 hA1).2, by rw [hp]; rfl⟩, m4⟩
   ·rw [PVRep.of hp]
    rw [hval2 t hil]
    exact hout rfl hp hj
  ·rw [if_neg e]
   by_cases hlt : t < args.length
   ·have hlv : t < vals.length := by omega
    have e1 : (args ++ List.replicate (fn.ntmps - args.length) PV.dead).getD t .dead = args[t] := by
     rw [List.getD_eq_getElem?_getD, List.getElem?_append_left hlt, List.getElem?_eq_getElem hlt]; rfl
    rw [e1]
    show PVRep L0 _ w t args[t] ((vals.toArray ++ Array.replicate (fn.ntmps - vals.toArray.size) undef).getD t undef)
    rw [hval t hlv, hval2 t hlv]
    have hA := ha t _ _ e (List.getElem?_eq_getElem hlt) (List.getElem?_eq_getElem hlv)
    have hnr : args[t].isRoot = false := by
     cases hpv : args[t] with
     | root => rw [hpv] at hA; exact hA.elim
     | _ => rfl
    rw [PVRep.of hnr]
    refine hout rfl hnr ?_
    cases hpv : args[t] with
    | root => rw [hpv] at hnr; cases hnr
    | _ => rw [hpv] at hA; exact hA
   ·have e1 : (args ++ List.replicate (fn.ntmps - args.length) PV.dead).getD t .dead = .dead := by
     rw [List.getD_eq_getElem?_getD, List.getElem?_append_right (by omega), List.getElem?_replicate]
     split <;> rfl
    rw [e1]; trivial
 refine wp_mono (h j _ _ w hr0) fun e a' w' ⟨L', st', s, r, he, pv, st2, ot, hp, ho, hR⟩ => ?_
 have hZ : L'.Z = Z := s.Z
 obtain ⟨v, hrun, L2, Rr, k1, k2, k3, k4, k5⟩ := vretX_ok hT r fn res hres hp
 have hF' : ∀ b, (∃ t, L'.F t b) → (F b ∨ w.heap.size ≤ b) ∧ b < w'.heap.size := fun b hb => by
  obtain ⟨t, ht⟩ := hb
  refine ⟨?_, (r.flt t b ht).1⟩
  rcases s.F t b ht with ⟨t', q⟩ | q
  ·exact .inl q.2.1
  ·exact .inr q
 have fin : a'.defers = [] ∧ ∃ v, (results fn a'.tmps).run P w' = .ok v w' ∧ ∃ v2 pv o, ∃ Fr Fo : Nat → Prop, Ending.returned v = .returned v2 ∧ ExtF w w' F ∧ R pv o ∧ GRep w' Z Fr pv v2 ∧ (∀ u, vals[i]? = some u → o = .dead ∨ GRep w' Z Fo o u) ∧
   (∀ b, Fr b ∨ Fo b → (F b ∨ w.heap.size ≤ b) ∧ b < w'.heap.size) ∧ ∀ b, Fr b → ¬ Fo b := by
  have hx : ExtF w w' F := ⟨s.os, s.tape, s.output, s.size, fun b hb hn => s.block b hb (fun t ht => hn ht.2.1)⟩
  rcases ho L2 a' w' Rr k1 w Z F _ hj with hd | ⟨g, hd⟩
  ·refine ⟨r.defers, v, hrun, v, pv, ot, Rr, Free, rfl, hx, hR, by rw [← hZ]; exact k5, fun u hu => .inl hd, fun b hb => ?_, fun b _ hb => hb.elim⟩
   rcases hb with hb | hb
   ·exact hF' b (k4 b hb)
   ·exact hb.elim
  ·refine ⟨r.defers, v, hrun, v, pv, ot, Rr, L2.F g, rfl, hx, hR, by rw [← hZ]; exact k5, fun u hu => .inr ?_, fun b hb => ?_, fun b h1 h2 => k1.rdj g b h2 h1⟩
   ·rw [List.getElem?_eq_getElem hil] at hu
    obtain rfl := Option.some.inj hu
    rw [k2, hZ] at hd
    exact hd
   ·rcases hb with hb | hb
    ·exact hF' b (k4 b hb)
    ·exact hF' b (k3 g b hb)
 rcases he with rfl | rfl
 ·exact fin
 ·exact fin
end
end Go.Proofs.YtoeblmcibheldaaDoor.V
end
section
/- Regions that run in any order, with a tail that comes behind all else (writes, calls that write) and with moves that may come at any time. No condition. -/
namespace Go.Proofs.YtoeblmcibheldaaDoor.V
open Go Go.RowKit
def unavB (ops : Array Oper) (f n i : Nat) : List Nat := (List.range ops.size).filterMap fun j => if (anc ops i).contains j || decide (j < f) || decide (n ≤ j) then none else (ops[j]?).bind (·.dst)
/-- a move, or whole numbers reckoned -/
def pureOp (st : St) (o : Oper) : Option PV :=
 match o.guard with
 | some _ => none
 | none => match o.op with
  | .move x => match ref st x with
   | .dead => none
   | pv => some pv
  | .binOp .sub _ x y _ => match ref st x, ref st y with
   | .v false (.int k) a, .v false (.int k') b => if k = k' then some (.v false (.int k) (k.wrap (a - b))) else none
   | _, _ => none
  | .binOp .add _ x y _ => match ref st x, ref st y with
   | .v false (.int k) a, .v false (.int k') b => if k = k' then some (.v false (.int k) (k.wrap (a + b))) else none
   | _, _ => none
  | _ => none
def vsel (i f n : Nat) [A : Hd (Unit → Prop)] [B : Hd (Unit → Prop)] [C : Hd (Unit → Prop)] : Prop := if i < f then A.val () else if i < n then B.val () else C.val ()
theorem vs_a {i f n : Nat} {A B C : Unit → Prop} (h : i < f) : @vsel i f n ⟨A⟩ ⟨B⟩ ⟨C⟩ = A () := by simp [vsel, h]
theorem vs_b {i f n : Nat} {A B C : Unit → Prop} (h : ¬ i < f) (h2 : i < n) : @vsel i f n ⟨A⟩ ⟨B⟩ ⟨C⟩ = B () := by simp [vsel, h, h2]
theorem vs_c {i f n : Nat} {A B C : Unit → Prop} (h : ¬ i < f) (h2 : ¬ i < n) : @vsel i f n ⟨A⟩ ⟨B⟩ ⟨C⟩ = C () := by simp [vsel, h, h2]
def vfloat (q : Option PV) [K : Hd (PV → Prop)] : Prop := match q with
 | some pv => K.val pv
 | none => False
def vmix (P : Program) (T : List (Nat × TI)) (ops : Array Oper) (f n : Nat) : Nat → List Oper → St → (St → Prop) → Prop
 | _, [], st, K => K st
 | i, o :: r, st0, K => @vsel i f n ⟨fun _ => @vfloat (pureOp st0 o) ⟨fun pv => nonroot st0 o.dst = true ∧ vmix P T ops f n (i + 1) r (setD st0 o.dst pv) K⟩⟩
  ⟨fun _ => @vguard st0 ops o ⟨fun run st => match run with
   | true => mentOk (unavB ops f n i) st o = true ∧ nonroot st o.dst = true ∧ @vreadD P T st o ⟨fun pv => vmix P T ops f n (i + 1) r (setD st o.dst pv) K⟩
   | false => nonroot st o.dst = true ∧ vmix P T ops f n (i + 1) r (setD st o.dst skipPV) K⟩⟩
  ⟨fun _ => @vguard st0 ops o ⟨fun run st => match run with
   | true => @vread P T st o ⟨fun st1 pv => nonroot st1 o.dst = true ∧ vmix P T ops f n (i + 1) r (setD st1 o.dst pv) K⟩
   | false => nonroot st o.dst = true ∧ vmix P T ops f n (i + 1) r (setD st o.dst skipPV) K⟩⟩
section
variable {P : Program} {T : List (Nat × TI)} {ops : Array Oper} {f n : Nat}
inductive TrB (P : Program) (ops : Array Oper) (U : Nat → List Nat) : Nat → List Oper → St → St → Prop
 | nil {i : Nat} {st : St} : TrB P ops U i [] st st
 | step {i : Nat} {o : Oper} {r : List Oper} {st F : St} {pv : PV} : Sure P ops o (U i) st pv → nonroot st o.dst = true → TrB P ops U (i + 1) r (setD st o.dst pv) F → TrB P ops U i (o :: r) st F
structure InvB (P : Program) (ops : Array Oper) (f n : Nat) (st F : St) (listed : Array Bool) (st' : St) : Prop where
 size : listed.size = ops.size
 closed : ∀ (i : Nat) (o : Oper), ops[i]? = some o → listed.getD i false = true → ∀ e ∈ o.after.toList, Region.binds .any e = true → listed.getD e.on false = true
 low : ∀ i, i < f → listed.getD i false = true
 high : ∀ i, n ≤ i → listed.getD i false = false
 len : st'.length = st.length
 old : ∀ t, (∀ (j : Nat) (o : Oper), f ≤ j → ops[j]? = some o → listed.getD j false = true → o.dst ≠ some t) → st'.at t = st.at t
 new : ∀ (j : Nat) (o : Oper) (t : Nat), f ≤ j → ops[j]? = some o → listed.getD j false = true → o.dst = some t → st'.at t = F.at t
theorem ready_iff {listed : Array Bool} {i : Nat} (hs : listed.size = ops.size) : i ∈ Region.ready .any ops listed ↔ ∃ o, ops[i]? = some o ∧ listed.getD i false = false ∧ ∀ e ∈ o.after.toList, Region.binds .any e = true → listed.getD e.on false = true := by
 rw [mem_ready]
 constructor
 ·rintro ⟨h0, o, ho, h⟩
  have hi : i < listed.size := by rw [hs]; exact (Array.getElem?_eq_some_iff.1 ho).1
  refine ⟨o, ho, by simpa [Array.getD, hi] using h0, fun e he hb => h e (by simpa using he) hb⟩
 ·rintro ⟨o, ho, h0, h⟩
  have hi : i < listed.size := by rw [hs]; exact (Array.getElem?_eq_some_iff.1 ho).1
  exact ⟨by simpa [Array.getD, hi] using h0, o, ho, fun e he hb => h e (by simpa using he) hb⟩
end
end Go.Proofs.YtoeblmcibheldaaDoor.V
end
section
/- The rule of regions in any order with a tail. No condition. -/
namespace Go.Proofs.YtoeblmcibheldaaDoor.V
open Go Go.RowKit
section
variable {P : Program} {T : List (Nat × TI)} {ops : Array Oper} {f n : Nat}
theorem pureOp_ok {L : Lay} {st : St} {a : Act} {w : World} (h : Rel L st a w Free) {o : Oper} {pv : PV} (hp : pureOp st o = some pv) : ∃ v, Yields P ops o v a ∧ ORep L st w pv v ∧ pv.isRoot = false := by
 unfold pureOp at hp
 split at hp
 ·cases hp
 ·rename_i hg
  have hw : Region.wanted o (yielded ops a.tmps) = true := by unfold Region.wanted; rw [hg]
  split at hp
  ·rename_i x ho
   have hv := h.opnd x
   have hr := ref_root st x
   have fin : some (ref st x) = some pv → ∃ v, Yields P ops o v a ∧ ORep L st w pv v ∧ pv.isRoot = false := by
    intro e
    obtain rfl := Option.some.inj e
    exact ⟨a.eval x, .inl ⟨hw, fun w => by simp [execOp, ho]⟩, hv, hr⟩
   split at hp
   ·cases hp
   ·exact fin hp
  ·rename_i t x y t2 ho
   have hx := h.opnd x
   have hy := h.opnd y
   split at hp
   ·rename_i k n k' m e1 e2
    rw [e1] at hx
    rw [e2] at hy
    have vx := hx.int
    have vy := hy.int
    split at hp
    ·rename_i hk
     subst hk
     obtain rfl := Option.some.inj hp
     refine ⟨_, .inl ⟨hw, fun W => ?_⟩, ORep.mkInt _ _, rfl⟩
     have hg : (eqGuard .sub t x y (.int k n) (.int k m)).run P W = .ok () W := by unfold eqGuard; simp
     simp [execOp, ho, vx, vy, hg, binOp, Op.intArith]
    ·cases hp
   ·cases hp
  ·rename_i t x y t2 ho
   have hx := h.opnd x
   have hy := h.opnd y
   split at hp
   ·rename_i k n k' m e1 e2
    rw [e1] at hx
    rw [e2] at hy
    have vx := hx.int
    have vy := hy.int
    split at hp
    ·rename_i hk
     subst hk
     obtain rfl := Option.some.inj hp
     refine ⟨_, .inl ⟨hw, fun W => ?_⟩, ORep.mkInt _ _, rfl⟩
     have hg : (eqGuard .add t x y (.int k n) (.int k m)).run P W = .ok () W := by unfold eqGuard; simp
     simp [execOp, ho, vx, vy, hg, binOp, Op.intArith]
    ·cases hp
   ·cases hp
  ·cases hp
end
end Go.Proofs.YtoeblmcibheldaaDoor.V
end
section
/- A region that clears the end of one's own row. No condition. -/
namespace Go.Proofs.YtoeblmcibheldaaDoor.V
open Go Go.RowKit
section
variable {P : Program} {T : List (Nat × TI)} {ops : Array Oper}
/-- a row's content turns while its block stays one's own -/
theorem Rel.turn {L : Lay} {st : St} {a : Act} {w w' : World} (h : Rel L st a w Free) {g : Nat} {agg : Bool} {s : Sh} {f f' : Fl} {x x' : s.ty} (hg : st.at g = .root (.val agg) s f x) {st1 st2 : St} (h1 : V.put st g [] s .junk x hitS = some st1) (h2 : V.put st1 g [] s f' x' hitS = some st2)
  (hw : ∀ B : Nat → Prop, Rep w L.Z s f x (L.C g) B → (∀ b, B b → L.F g b) → ExtF w w' B ∧ Rep w' L.Z s f' x' (L.C g) B) : ∃ L', Stp L L' w w' ∧ Rel L' st2 a w' Free := by
 obtain ⟨r1, B0, r2, r3, r4⟩ := h.root hg
 have hP : Place L st w g [] s (L.C g) (L.D g) := ⟨_, s, f, x, hg, by cases s <;> trivial, ⟨f, x, get_nil _ _ _⟩, sub_nil _ _ _ _⟩
 obtain ⟨f1, x1, e1, B1, e2, e3, e4, e5, e6⟩ := h.put hg hP
 rw [get_nil] at e1
 cases Option.some.inj e1
 obtain ⟨hx, hR⟩ := hw B1 e3 e2
 obtain ⟨f3, x3, hu, hst1⟩ := put_spec hg h1
 have q1 := e6 w (L.C g) .junk x (fun _ => False) B1 f3 x3 hitS (.inl ⟨rfl, rfl⟩) rfl e3.tojunk (fun _ h => h.elim) (fun b hb => ⟨.inr hb, id⟩) hu (.inr ⟨rfl, rfl⟩)
 rw [← hst1] at q1
 generalize hL1 : (⟨L.Z, fun t b => if t = g then (L.F g b ∧ ¬ B1 b) ∨ False else L.F t b, fun t => if t = g then csub s (L.C g) [] (L.C g) else L.C t, L.D⟩ : Lay) = L1 at q1
 have hL1F : ∀ t n, L1.F t n → L.F t n := by
  intro t n hn
  rw [← hL1] at hn
  simp only at hn
  split at hn
  ·rename_i e; subst e; exact hn.elim (fun q => q.1) False.elim
  ·exact hn
 have hL1Z : L1.Z = L.Z := by rw [← hL1]
 have hL1C : L1.C g = L.C g := by rw [← hL1]; simp only [if_true, csub_nil]
 have hg1 : st1.at g = .root (.val agg) s f3 x3 := by
  rw [hst1, St.at_set, if_pos ⟨rfl, by rw [List.length_map]; exact root_lt hg⟩]
 have hnF : ∀ n, B1 n → ¬ L1.Z n ∧ ∀ t, ¬ L1.F t n := fun n hn => ⟨(q1.rlt n hn).2, fun t ht => q1.rdj t n ht hn⟩
 have q2 : Rel L1 st1 a w' B1 := q1.extF hx hnF
 have hP2 : Place L1 st1 w' g [] s (L.C g) (L1.D g) := ⟨_, s, f3, x3, hg1, by cases s <;> trivial, ⟨f3, x3, get_nil _ _ _⟩, by rw [sub_nil, hL1C]⟩
 obtain ⟨f5, x5, d1, B5, d2, d3, d4, d5, d6⟩ := q2.put hg1 hP2
 obtain ⟨f6, x6, hu2, hst2⟩ := put_spec hg1 h2
 have q3 := d6 w' (L.C g) f' x' B1 Free f6 x6 hitS (.inl ⟨rfl, rfl⟩) rfl (by rw [hL1Z]; exact hR) (fun n hn => .inl hn) (fun n hn => hn.elim) hu2 (.inr ⟨rfl, rfl⟩)
 rw [← hst2] at q3
 refine ⟨_, ?_, q3⟩
 refine ⟨hx.os, hx.tape, hx.output, hx.size, fun n hn hL => hx.block n hn (fun hB => hL g (e2 n hB)), hL1Z, fun t n hn => ?_⟩
 simp only at hn
 split at hn
 ·rcases hn with hn | hn
  ·exact .inl ⟨g, hL1F g n hn.1⟩
  ·exact .inl ⟨g, e2 n hn⟩
 ·exact .inl ⟨t, hL1F t n hn⟩
end
end Go.Proofs.YtoeblmcibheldaaDoor.V
end
section
/- An empty row handed over. No condition. -/
namespace Go.Proofs.YtoeblmcibheldaaDoor.V
open Go Go.RowKit
end Go.Proofs.YtoeblmcibheldaaDoor.V
end
section
/- Functions that hand out a pointer; headers of frozen slices learned. No condition. -/
namespace Go.Proofs.YtoeblmcibheldaaDoor.V
open Go Go.RowKit
end Go.Proofs.YtoeblmcibheldaaDoor.V
end
section
/- The rewriting words in one. No condition. -/
namespace Go.Proofs.YtoeblmcibheldaaDoor.V
open Go Go.RowKit
/-- a goal put off: see cutl -/
structure Hold (Z : Prop) : Prop where
 h : Z
/-- many branches that end alike: the end is proved once -/
theorem cutl {G Z : Prop} (k : Hold Z → G) (h : Z) : G := k ⟨h⟩
theorem bq : (∀ (α : Type) (a : α) (l : List α), (a :: l).length = l.length + 1) ∧ (∀ α : Type, ([] : List α).length = 0) ∧ (∀ n : Nat, 0 + n = n) ∧ (∀ n : Nat, (n < n + 1) = True) ∧ (∀ p : Prop, (p ∧ p) = p) ∧
  (∀ (a : PV) (l : List PV), St.at (a :: l) 0 = a) ∧ (∀ (a : PV) (l : List PV) (n : Nat), St.at (a :: l) (n + 1) = St.at l n) ∧ ((!false) = true) ∧ ((!true) = false) ∧ (∀ p : Prop, (True ∧ p) = p) ∧ (∀ p : Prop, (p ∧ True) = p) ∧ ((false = true) = False) ∧
  (∀ p : Prop, (True → p) = p) ∧ (∀ p : Prop, (False → p) = True) ∧ (∀ α : Sort 1, (α → True) = True) ∧ (∀ p : Prop, (p → True) = True) ∧ (∀ b : Bool, ((!b) = true) = (b = false)) ∧
  (∀ (α : Type) (h : Decidable True) (a b : α), (if True then a else b) = a) ∧ (∀ (α : Type) (h : Decidable False) (a b : α), (if False then a else b) = b) ∧ (∀ (s : Sh) (x : s.ty), castTo s s x = some x) ∧
  (∀ (α : Type) (l : List α), [] ++ l = l) ∧ (∀ (α : Type) (a : α) (l m : List α), a :: l ++ m = a :: (l ++ m)) ∧ (∀ b, (true && b) = b) ∧ (∀ b, (b && true) = b) ∧ (∀ b, (b || false) = b) ∧ (∀ b, (false || b) = b) ∧ (∀ b, (true || b) = true) ∧ (∀ b, (b || true) = true) ∧
  (∀ (α : Type) (a : α), (a = a) = True) ∧ (∀ h : Decidable True, @decide True h = true) ∧ (∀ p : Prop, (True ∨ p) = True) ∧ (∀ p : Prop, (p ∨ True) = True) ∧ (∀ (α : Type) (a b : α) (l : List α) (n : Nat), (a :: l)[n + 1]? = l[n]?) ∧ (∀ (α : Type) (a : α) (l : List α), (a :: l)[0]? = some a) ∧
  (∀ (α β : Type) (a : α) (f : α → Option β), (some a).bind f = f a) ∧ (∀ (α : Type) (p : α → Bool), [].all p = true) ∧ (∀ (α : Type) (p : α → Bool) (a : α) (l : List α), (a :: l).all p = (p a && l.all p)) ∧ (∀ (α : Type) [BEq α] [ReflBEq α] (a : α), (a == a) = true) ∧
  (∀ (α : Type) (a b : Array α), (a ++ b).toList = a.toList ++ b.toList) ∧ (∀ (α : Type) (a b : α), (a ≠ b) = ¬ (a = b)) ∧ ((¬ False) = True) ∧ ((¬ True) = False) ∧ (∀ (α : Type) [BEq α] (a : α), [].contains a = false) ∧ (∀ n : Nat, Int.toNat (n : Int) = n) ∧
  ((PStep.l == PStep.l) = true) ∧ ((PStep.l == PStep.r) = false) ∧ ((PStep.r == PStep.l) = false) ∧ ((PStep.r == PStep.r) = true) ∧ (∀ i j : Nat, (PStep.el i == PStep.el j) = decide (i = j)) ∧ (∀ b, (b && false) = false) ∧ (∀ b, (false && b) = false) ∧ (∀ b, (!(!b)) = b) := by
 refine ⟨fun _ _ _ => rfl, fun _ => rfl, Nat.zero_add, fun n => by simp, fun p => by simp, fun _ _ => rfl, fun _ _ _ => rfl, rfl, rfl, fun p => by simp, fun p => by simp, by simp, fun p => by simp, fun p => by simp, fun p => by simp, fun p => by simp, fun b => by simp, fun _ _ _ _ => by simp, fun _ _ _ _ => by simp, castTo_self, fun _ _ => rfl, fun _ _ _ _ => rfl, fun b => by simp, fun b => by simp, fun b => by simp, fun b => by simp, fun b => by simp, fun b => by simp, fun _ _ => by simp, fun _ => by simp, fun p => by simp, fun p => by simp, fun _ _ _ _ _ => by simp, fun _ _ _ => rfl, fun _ _ _ _ => rfl, fun _ _ => rfl, fun _ _ _ _ => rfl, fun _ _ _ _ => by simp, fun _ _ _ => by simp, fun _ _ _ => rfl, by simp, by simp, fun _ _ _ => rfl, fun n => by simp, ps1, ps2, ps3, ps4, ps5, fun b => by simp, fun b => by simp, fun b => by simp⟩
end Go.Proofs.YtoeblmcibheldaaDoor.V
end
section
/- The rewriting words in one, the definitions' equations. No condition. -/
namespace Go.Proofs.YtoeblmcibheldaaDoor.V
open Go Go.RowKit
theorem vq : type_of% (And.intro (And.intro (And.intro (And.intro (And.intro (And.intro (And.intro (@Sh.size.eq_1) (And.intro (@Sh.size.eq_2) (@Sh.size.eq_3))) (And.intro (And.intro (@Sh.size.eq_4) (@Sh.size.eq_5)) (And.intro (@Sh.size.eq_6) (@fillRow.eq_1)))) (And.intro (And.intro (And.intro (@fillRow.eq_2) (@fillSt.eq_1)) (And.intro (@fillSt.eq_2) (@noH.eq_1))) (And.intro (And.intro (@PV.isH.eq_1) (@PV.isH.eq_2)) (And.intro (@Fl.sub.eq_1) (@Fl.sub.eq_2))))) (And.intro (And.intro (And.intro (@Fl.sub.eq_3) (And.intro (@PV.isEmp.eq_1) (@PV.isEmp.eq_2))) (And.intro (And.intro (@emp1) (@headRow.eq_1)) (And.intro (@headRow.eq_2) (@headRow.eq_3)))) (And.intro (And.intro (And.intro (@rowOf.eq_1) (@rowOf.eq_2)) (And.intro (@rowOf.eq_3) (@rowOf.eq_4))) (And.intro (And.intro (@nilTest.eq_1) (@take.eq_1)) (And.intro (@drop.eq_1) (@usesG.eq_1)))))) (And.intro (And.intro (And.intro (And.intro (@usesG.eq_2) (And.intro (@usesG.eq_3) (@usesG.eq_4))) (And.intro (And.intro (@capUses.eq_1) (@capUses.eq_2)) (And.intro (@emp0) (@hdv)))) (And.intro (And.intro (And.intro (@vops.eq_1) (@vops.eq_2)) (And.intro (@vguard.eq_1) (@vread.eq_1))) (And.intro (And.intro (@vdraw.eq_1) (@vdraw.eq_2)) (And.intro (@vreadD.eq_1) (@pop.eq_1))))) (And.intro (And.intro (And.intro (And.intro (@ref.eq_1) (@ref.eq_2)) (And.intro (@ev.eq_1) (@ev.eq_2))) (And.intro (And.intro (@ev.eq_3) (@ev.eq_4)) (And.intro (@cvalue.eq_1) (@cvalue.eq_2)))) (And.intro (And.intro (And.intro (@cvalue.eq_3) (@cvalue.eq_4)) (And.intro (@cvalue.eq_5) (@nonroot.eq_1))) (And.intro (And.intro (@nonroot.eq_2) (@PV.isRoot.eq_1)) (And.intro (@PV.isRoot.eq_2) (@setD.eq_1))))))) (And.intro (And.intro (And.intro (And.intro (And.intro (@setD.eq_2) (And.intro (@lenOf.eq_1) (@lenOf.eq_2))) (And.intro (And.intro (@lenOf.eq_3) (@lenOf.eq_4)) (And.intro (@binop.eq_1) (@binop.eq_2)))) (And.intro (And.intro (And.intro (@binop.eq_3) (@binop.eq_4)) (And.intro (@binop.eq_5) (@binop.eq_6))) (And.intro (And.intro (@binop.eq_7) (@binop.eq_8)) (And.intro (@intop.eq_1) (@intop.eq_2))))) (And.intro (And.intro (And.intro (@intop.eq_3) (And.intro (@intop.eq_4) (@intop.eq_5))) (And.intro (And.intro (@intop.eq_6) (@intop.eq_7)) (And.intro (@intop.eq_8) (@intop.eq_9)))) (And.intro (And.intro (And.intro (@intop.eq_10) (@intop.eq_11)) (And.intro (@intop.eq_12) (@intop.eq_13))) (And.intro (And.intro (@intop.eq_14) (@intop.eq_15)) (And.intro (@intop.eq_16) (@capsOf.eq_1)))))) (And.intro (And.intro (And.intro (And.intro (@capsOf.eq_2) (And.intro (@cOf.eq_1) (@look.eq_1))) (And.intro (And.intro (@get.eq_1) (@get.eq_2)) (And.intro (@get.eq_3) (@get.eq_4)))) (And.intro (And.intro (And.intro (@get.eq_5) (@get.eq_6)) (And.intro (@get.eq_7) (@get.eq_8))) (And.intro (And.intro (@lendCaps.eq_1) (@lendCaps.eq_2)) (And.intro (@lendAll.eq_1) (@lendAll.eq_2))))) (And.intro (And.intro (And.intro (And.intro (@lend.eq_1) (@lend.eq_2)) (And.intro (@lend.eq_3) (@lend.eq_4))) (And.intro (And.intro (@lend.eq_5) (@lend.eq_6)) (And.intro (@lend.eq_7) (@lendCap.eq_1)))) (And.intro (And.intro (And.intro (@lendCap.eq_2) (@okRes.eq_1)) (And.intro (@okRes.eq_2) (@okRes.eq_3))) (And.intro (And.intro (@okRes.eq_4) (@isAdr.eq_1)) (And.intro (@isAdr.eq_2) (@capPV.eq_1)))))))) (And.intro (And.intro (And.intro (And.intro (And.intro (And.intro (@capPV.eq_2) (And.intro (@mentOk.eq_1) (@ments.eq_1))) (And.intro (And.intro (@ments.eq_2) (@ments.eq_3)) (And.intro (@ments.eq_4) (@loaded.eq_1)))) (And.intro (And.intro (And.intro (@Sh.plain.eq_1) (@Sh.plain.eq_2)) (And.intro (@Sh.plain.eq_3) (@Fl.allfz.eq_1))) (And.intro (And.intro (@Fl.allfz.eq_2) (@Fl.allfz.eq_3)) (And.intro (@Fl.allfz.eq_4) (@Fl.allfz.eq_5))))) (And.intro (And.intro (And.intro (@grab.eq_1) (And.intro (@grab.eq_2) (@grab.eq_3))) (And.intro (And.intro (@grab.eq_4) (@upd.eq_1)) (And.intro (@upd.eq_2) (@upd.eq_3)))) (And.intro (And.intro (And.intro (@upd.eq_4) (@upd.eq_5)) (And.intro (@upd.eq_6) (@upd.eq_7))) (And.intro (And.intro (@upd.eq_8) (@hit.eq_1)) (And.intro (@hit.eq_2) (@hit.eq_3)))))) (And.intro (And.intro (And.intro (And.intro (@hit.eq_4) (And.intro (@put.eq_1) (@unop.eq_1))) (And.intro (And.intro (@unop.eq_2) (@unop.eq_3)) (And.intro (@eqop.eq_1) (@eqop.eq_2)))) (And.intro (And.intro (And.intro (@Fl.good.eq_1) (@Fl.good.eq_2)) (And.intro (@Fl.good.eq_3) (@Fl.good.eq_4))) (And.intro (And.intro (@Fl.good.eq_5) (@Fl.good.eq_6)) (And.intro (@Fl.sound.eq_1) (@Fl.sound.eq_2))))) (And.intro (And.intro (And.intro (And.intro (@Fl.sound.eq_3) (@Fl.sound.eq_4)) (And.intro (@Fl.sound.eq_5) (@Fl.sound.eq_6))) (And.intro (And.intro (@Fl.sound.eq_7) (@Fl.sound.eq_8)) (And.intro (@Fl.l.eq_1) (@Fl.l.eq_2)))) (And.intro (And.intro (And.intro (@Fl.r.eq_1) (@Fl.r.eq_2)) (And.intro (@Fl.el.eq_1) (@Fl.el.eq_2))) (And.intro (And.intro (@Fl.el.eq_3) (@Fl.el.eq_4)) (And.intro (@fpath.eq_1) (@fpath.eq_2))))))) (And.intro (And.intro (And.intro (And.intro (And.intro (@Sh.zero.eq_1) (And.intro (@Sh.zero.eq_2) (@Sh.zero.eq_3))) (And.intro (And.intro (@Sh.zero.eq_4) (@Sh.zero.eq_5)) (And.intro (@Sh.zero.eq_6) (@bound.eq_1)))) (And.intro (And.intro (And.intro (@bound.eq_2) (@Path.pre.eq_1)) (And.intro (@Path.pre.eq_2) (@Path.pre.eq_3))) (And.intro (And.intro (@below.eq_1) (@skipPV.eq_1)) (And.intro (@vb_tt) (@vb_tf))))) (And.intro (And.intro (And.intro (And.intro (@vb_ft) (@vb_ff)) (And.intro (@Fl.wr.eq_1) (@Fl.wr.eq_2))) (And.intro (And.intro (@Fl.wr.eq_3) (@Fl.wr.eq_4)) (And.intro (@hitS.eq_1) (@hitS.eq_2)))) (And.intro (And.intro (And.intro (@hitS.eq_3) (@hitS.eq_4)) (And.intro (@xback.eq_1) (@xback.eq_2))) (And.intro (And.intro (@lendX.eq_1) (@lendX.eq_2)) (And.intro (@lendX.eq_3) (@vmix.eq_1)))))) (And.intro (And.intro (And.intro (And.intro (@vmix.eq_2) (And.intro (@pureOp.eq_1) (@Fl.nofz.eq_1))) (And.intro (And.intro (@Fl.nofz.eq_2) (@Fl.nofz.eq_3)) (And.intro (@Fl.nofz.eq_4) (@Fl.nofz.eq_5)))) (And.intro (And.intro (And.intro (@Fl.nofz.eq_6) (@Fl.nofz.eq_7)) (And.intro (@vio.eq_1) (@vxgo.eq_1))) (And.intro (And.intro (@vmv.eq_1) (@capOut.eq_1)) (And.intro (@capOut.eq_2) (@vs_a))))) (And.intro (And.intro (And.intro (And.intro (@vs_b) (@vs_c)) (And.intro (@vfloat.eq_1) (@vfloat.eq_2))) (And.intro (And.intro (@capBelow.eq_1) (@capBelow.eq_2)) (And.intro (@Fl.unio.eq_1) (@Fl.unio.eq_2)))) (And.intro (And.intro (And.intro (@keepZ.eq_1) (@keepZ.eq_2)) (And.intro (@keepZ.eq_3) (@keepZ.eq_4))) (And.intro (And.intro (@nilP.eq_1) (@nilP.eq_2)) (And.intro (@moveTup.eq_1) (@moveTup.eq_2))))))))) :=
 And.intro (And.intro (And.intro (And.intro (And.intro (And.intro (And.intro (@Sh.size.eq_1) (And.intro (@Sh.size.eq_2) (@Sh.size.eq_3))) (And.intro (And.intro (@Sh.size.eq_4) (@Sh.size.eq_5)) (And.intro (@Sh.size.eq_6) (@fillRow.eq_1)))) (And.intro (And.intro (And.intro (@fillRow.eq_2) (@fillSt.eq_1)) (And.intro (@fillSt.eq_2) (@noH.eq_1))) (And.intro (And.intro (@PV.isH.eq_1) (@PV.isH.eq_2)) (And.intro (@Fl.sub.eq_1) (@Fl.sub.eq_2))))) (And.intro (And.intro (And.intro (@Fl.sub.eq_3) (And.intro (@PV.isEmp.eq_1) (@PV.isEmp.eq_2))) (And.intro (And.intro (@emp1) (@headRow.eq_1)) (And.intro (@headRow.eq_2) (@headRow.eq_3)))) (And.intro (And.intro (And.intro (@rowOf.eq_1) (@rowOf.eq_2)) (And.intro (@rowOf.eq_3) (@rowOf.eq_4))) (And.intro (And.intro (@nilTest.eq_1) (@take.eq_1)) (And.intro (@drop.eq_1) (@usesG.eq_1)))))) (And.intro (And.intro (And.intro (And.intro (@usesG.eq_2) (And.intro (@usesG.eq_3) (@usesG.eq_4))) (And.intro (And.intro (@capUses.eq_1) (@capUses.eq_2)) (And.intro (@emp0) (@hdv)))) (And.intro (And.intro (And.intro (@vops.eq_1) (@vops.eq_2)) (And.intro (@vguard.eq_1) (@vread.eq_1))) (And.intro (And.intro (@vdraw.eq_1) (@vdraw.eq_2)) (And.intro (@vreadD.eq_1) (@pop.eq_1))))) (And.intro (And.intro (And.intro (And.intro (@ref.eq_1) (@ref.eq_2)) (And.intro (@ev.eq_1) (@ev.eq_2))) (And.intro (And.intro (@ev.eq_3) (@ev.eq_4)) (And.intro (@cvalue.eq_1) (@cvalue.eq_2)))) (And.intro (And.intro (And.intro (@cvalue.eq_3) (@cvalue.eq_4)) (And.intro (@cvalue.eq_5) (@nonroot.eq_1))) (And.intro (And.intro (@nonroot.eq_2) (@PV.isRoot.eq_1)) (And.intro (@PV.isRoot.eq_2) (@setD.eq_1))))))) (And.intro (And.intro (And.intro (And.intro (And.intro (@setD.eq_2) (And.intro (@lenOf.eq_1) (@lenOf.eq_2))) (And.intro (And.intro (@lenOf.eq_3) (@lenOf.eq_4)) (And.intro (@binop.eq_1) (@binop.eq_2)))) (And.intro (And.intro (And.intro (@binop.eq_3) (@binop.eq_4)) (And.intro (@binop.eq_5) (@binop.eq_6))) (And.intro (And.intro (@binop.eq_7) (@binop.eq_8)) (And.intro (@intop.eq_1) (@intop.eq_2))))) (And.intro (And.intro (And.intro (@intop.eq_3) (And.intro (@intop.eq_4) (@intop.eq_5))) (And.intro (And.intro (@intop.eq_6) (@intop.eq_7)) (And.intro (@intop.eq_8) (@intop.eq_9)))) (And.intro (And.intro (And.intro (@intop.eq_10) (@intop.eq_11)) (And.intro (@intop.eq_12) (@intop.eq_13))) (And.intro (And.intro (@intop.eq_14) (@intop.eq_15)) (And.intro (@intop.eq_16) (@capsOf.eq_1)))))) (And.intro (And.intro (And.intro (And.intro (@capsOf.eq_2) (And.intro (@cOf.eq_1) (@look.eq_1))) (And.intro (And.intro (@get.eq_1) (@get.eq_2)) (And.intro (@get.eq_3) (@get.eq_4)))) (And.intro (And.intro (And.intro (@get.eq_5) (@get.eq_6)) (And.intro (@get.eq_7) (@get.eq_8))) (And.intro (And.intro (@lendCaps.eq_1) (@lendCaps.eq_2)) (And.intro (@lendAll.eq_1) (@lendAll.eq_2))))) (And.intro (And.intro (And.intro (And.intro (@lend.eq_1) (@lend.eq_2)) (And.intro (@lend.eq_3) (@lend.eq_4))) (And.intro (And.intro (@lend.eq_5) (@lend.eq_6)) (And.intro (@lend.eq_7) (@lendCap.eq_1)))) (And.intro (And.intro (And.intro (@lendCap.eq_2) (@okRes.eq_1)) (And.intro (@okRes.eq_2) (@okRes.eq_3))) (And.intro (And.intro (@okRes.eq_4) (@isAdr.eq_1)) (And.intro (@isAdr.eq_2) (@capPV.eq_1)))))))) (And.intro (And.intro (And.intro (And.intro (And.intro (And.intro (@capPV.eq_2) (And.intro (@mentOk.eq_1) (@ments.eq_1))) (And.intro (And.intro (@ments.eq_2) (@ments.eq_3)) (And.intro (@ments.eq_4) (@loaded.eq_1)))) (And.intro (And.intro (And.intro (@Sh.plain.eq_1) (@Sh.plain.eq_2)) (And.intro (@Sh.plain.eq_3) (@Fl.allfz.eq_1))) (And.intro (And.intro (@Fl.allfz.eq_2) (@Fl.allfz.eq_3)) (And.intro (@Fl.allfz.eq_4) (@Fl.allfz.eq_5))))) (And.intro (And.intro (And.intro (@grab.eq_1) (And.intro (@grab.eq_2) (@grab.eq_3))) (And.intro (And.intro (@grab.eq_4) (@upd.eq_1)) (And.intro (@upd.eq_2) (@upd.eq_3)))) (And.intro (And.intro (And.intro (@upd.eq_4) (@upd.eq_5)) (And.intro (@upd.eq_6) (@upd.eq_7))) (And.intro (And.intro (@upd.eq_8) (@hit.eq_1)) (And.intro (@hit.eq_2) (@hit.eq_3)))))) (And.intro (And.intro (And.intro (And.intro (@hit.eq_4) (And.intro (@put.eq_1) (@unop.eq_1))) (And.intro (And.intro (@unop.eq_2) (@unop.eq_3)) (And.intro (@eqop.eq_1) (@eqop.eq_2)))) (And.intro (And.intro (And.intro (@Fl.good.eq_1) (@Fl.good.eq_2)) (And.intro (@Fl.good.eq_3) (@Fl.good.eq_4))) (And.intro (And.intro (@Fl.good.eq_5) (@Fl.good.eq_6)) (And.intro (@Fl.sound.eq_1) (@Fl.sound.eq_2))))) (And.intro (And.intro (And.intro (And.intro (@Fl.sound.eq_3) (@Fl.sound.eq_4)) (And.intro (@Fl.sound.eq_5) (@Fl.sound.eq_6))) (And.intro (And.intro (@Fl.sound.eq_7) (@Fl.sound.eq_8)) (And.intro (@Fl.l.eq_1) (@Fl.l.eq_2)))) (And.intro (And.intro (And.intro (@Fl.r.eq_1) (@Fl.r.eq_2)) (And.intro (@Fl.el.eq_1) (@Fl.el.eq_2))) (And.intro (And.intro (@Fl.el.eq_3) (@Fl.el.eq_4)) (And.intro (@fpath.eq_1) (@fpath.eq_2))))))) (And.intro (And.intro (And.intro (And.intro (And.intro (@Sh.zero.eq_1) (And.intro (@Sh.zero.eq_2) (@Sh.zero.eq_3))) (And.intro (And.intro (@Sh.zero.eq_4) (@Sh.zero.eq_5)) (And.intro (@Sh.zero.eq_6) (@bound.eq_1)))) (And.intro (And.intro (And.intro (@bound.eq_2) (@Path.pre.eq_1)) (And.intro (@Path.pre.eq_2) (@Path.pre.eq_3))) (And.intro (And.intro (@below.eq_1) (@skipPV.eq_1)) (And.intro (@vb_tt) (@vb_tf))))) (And.intro (And.intro (And.intro (And.intro (@vb_ft) (@vb_ff)) (And.intro (@Fl.wr.eq_1) (@Fl.wr.eq_2))) (And.intro (And.intro (@Fl.wr.eq_3) (@Fl.wr.eq_4)) (And.intro (@hitS.eq_1) (@hitS.eq_2)))) (And.intro (And.intro (And.intro (@hitS.eq_3) (@hitS.eq_4)) (And.intro (@xback.eq_1) (@xback.eq_2))) (And.intro (And.intro (@lendX.eq_1) (@lendX.eq_2)) (And.intro (@lendX.eq_3) (@vmix.eq_1)))))) (And.intro (And.intro (And.intro (And.intro (@vmix.eq_2) (And.intro (@pureOp.eq_1) (@Fl.nofz.eq_1))) (And.intro (And.intro (@Fl.nofz.eq_2) (@Fl.nofz.eq_3)) (And.intro (@Fl.nofz.eq_4) (@Fl.nofz.eq_5)))) (And.intro (And.intro (And.intro (@Fl.nofz.eq_6) (@Fl.nofz.eq_7)) (And.intro (@vio.eq_1) (@vxgo.eq_1))) (And.intro (And.intro (@vmv.eq_1) (@capOut.eq_1)) (And.intro (@capOut.eq_2) (@vs_a))))) (And.intro (And.intro (And.intro (And.intro (@vs_b) (@vs_c)) (And.intro (@vfloat.eq_1) (@vfloat.eq_2))) (And.intro (And.intro (@capBelow.eq_1) (@capBelow.eq_2)) (And.intro (@Fl.unio.eq_1) (@Fl.unio.eq_2)))) (And.intro (And.intro (And.intro (@keepZ.eq_1) (@keepZ.eq_2)) (And.intro (@keepZ.eq_3) (@keepZ.eq_4))) (And.intro (And.intro (@nilP.eq_1) (@nilP.eq_2)) (And.intro (@moveTup.eq_1) (@moveTup.eq_2))))))))
theorem gA : type_of% (@List.getElem?_toArray.{0}) := @List.getElem?_toArray.{0}
theorem gB : type_of% (@List.filterMap_nil.{0, 0}) := @List.filterMap_nil.{0, 0}
theorem gC : type_of% (@List.filterMap_cons.{0, 0}) := @List.filterMap_cons.{0, 0}
theorem gD : type_of% (@List.contains_cons.{0}) := @List.contains_cons.{0}
theorem gE : type_of% (@List.getElem?_cons_succ.{0}) := @List.getElem?_cons_succ.{0}
theorem gF : type_of% (@List.getElem?_cons_zero.{0}) := @List.getElem?_cons_zero.{0}
theorem gG : type_of% (@Option.bind_some.{0, 0}) := @Option.bind_some.{0, 0}
end Go.Proofs.YtoeblmcibheldaaDoor.V
end
section
/- The rewriting words in one, the rest. No condition. -/
namespace Go.Proofs.YtoeblmcibheldaaDoor.V
open Go Go.RowKit
theorem wq0 : type_of% (And.intro (And.intro (And.intro (And.intro (And.intro (And.intro @List.replicate.eq_1.{0} @List.replicate.eq_2.{0}) (And.intro @List.set.eq_1.{0} @List.set.eq_2.{0})) (And.intro (And.intro @List.set.eq_3.{0} @List.map.eq_1.{0,0}) (And.intro @List.map.eq_2.{0,0} @List.any.eq_1.{0}))) (And.intro (And.intro (And.intro @List.any.eq_2.{0} @List.append.eq_1.{0}) (And.intro @List.append.eq_2.{0} @Call.operands.eq_1)) (And.intro (And.intro @Op.operands.eq_1 @Op.operands.eq_2) (And.intro @Op.operands.eq_3 @Op.operands.eq_4)))) (And.intro (And.intro (And.intro (And.intro @Op.operands.eq_5 @Op.operands.eq_6) (And.intro @Op.operands.eq_7 @Op.operands.eq_8)) (And.intro (And.intro @Op.operands.eq_9 @Op.operands.eq_10) (And.intro @Op.operands.eq_11 @Op.operands.eq_12))) (And.intro (And.intro (And.intro @Op.operands.eq_13 @Op.operands.eq_14) (And.intro @Op.operands.eq_15 @Op.operands.eq_16)) (And.intro (And.intro @Op.operands.eq_17 @Op.operands.eq_18) (And.intro @Op.operands.eq_19 @Op.operands.eq_20))))) (And.intro (And.intro (And.intro (And.intro (And.intro @Op.operands.eq_21 @Op.operands.eq_22) (And.intro @Op.operands.eq_23 @Op.operands.eq_24)) (And.intro (And.intro @Op.operands.eq_25 @Op.operands.eq_26) (And.intro @Op.operands.eq_27 @Op.operands.eq_28))) (And.intro (And.intro (And.intro @Op.operands.eq_29 @Op.operands.eq_30) (And.intro @Op.operands.eq_31 @Op.operands.eq_32)) (And.intro (And.intro @Op.operands.eq_33 @Op.operands.eq_34) (And.intro @Op.operands.eq_35 @Op.operands.eq_36)))) (And.intro (And.intro (And.intro (And.intro @Op.operands.eq_37 @Op.operands.eq_38) (And.intro @Op.operands.eq_39 @Op.operands.eq_40)) (And.intro (And.intro @Op.operands.eq_41 @Op.operands.eq_42) (And.intro @Op.operands.eq_43 @dif_pos.{1}))) (And.intro (And.intro (And.intro @gA @gB) (And.intro @gC @gD)) (And.intro (And.intro @gE @gF) (And.intro @gG (And.intro @bq @vq))))))) := (And.intro (And.intro (And.intro (And.intro (And.intro (And.intro @List.replicate.eq_1.{0} @List.replicate.eq_2.{0}) (And.intro @List.set.eq_1.{0} @List.set.eq_2.{0})) (And.intro (And.intro @List.set.eq_3.{0} @List.map.eq_1.{0,0}) (And.intro @List.map.eq_2.{0,0} @List.any.eq_1.{0}))) (And.intro (And.intro (And.intro @List.any.eq_2.{0} @List.append.eq_1.{0}) (And.intro @List.append.eq_2.{0} @Call.operands.eq_1)) (And.intro (And.intro @Op.operands.eq_1 @Op.operands.eq_2) (And.intro @Op.operands.eq_3 @Op.operands.eq_4)))) (And.intro (And.intro (And.intro (And.intro @Op.operands.eq_5 @Op.operands.eq_6) (And.intro @Op.operands.eq_7 @Op.operands.eq_8)) (And.intro (And.intro @Op.operands.eq_9 @Op.operands.eq_10) (And.intro @Op.operands.eq_11 @Op.operands.eq_12))) (And.intro (And.intro (And.intro @Op.operands.eq_13 @Op.operands.eq_14) (And.intro @Op.operands.eq_15 @Op.operands.eq_16)) (And.intro (And.intro @Op.operands.eq_17 @Op.operands.eq_18) (And.intro @Op.operands.eq_19 @Op.operands.eq_20))))) (And.intro (And.intro (And.intro (And.intro (And.intro @Op.operands.eq_21 @Op.operands.eq_22) (And.intro @Op.operands.eq_23 @Op.operands.eq_24)) (And.intro (And.intro @Op.operands.eq_25 @Op.operands.eq_26) (And.intro @Op.operands.eq_27 @Op.operands.eq_28))) (And.intro (And.intro (And.intro @Op.operands.eq_29 @Op.operands.eq_30) (And.intro @Op.operands.eq_31 @Op.operands.eq_32)) (And.intro (And.intro @Op.operands.eq_33 @Op.operands.eq_34) (And.intro @Op.operands.eq_35 @Op.operands.eq_36)))) (And.intro (And.intro (And.intro (And.intro @Op.operands.eq_37 @Op.operands.eq_38) (And.intro @Op.operands.eq_39 @Op.operands.eq_40)) (And.intro (And.intro @Op.operands.eq_41 @Op.operands.eq_42) (And.intro @Op.operands.eq_43 @dif_pos.{1}))) (And.intro (And.intro (And.intro @gA @gB) (And.intro @gC @gD)) (And.intro (And.intro @gE @gF) (And.intro @gG (And.intro @bq @vq)))))))
theorem wn : type_of% (And.intro (And.intro (And.intro (And.intro @norm.eq_1 @homeOne.eq_1) (And.intro @homeOne.eq_2 @moveTo.eq_1)) (And.intro (And.intro @keepS.eq_1 @keepGo.eq_1) (And.intro @keepGo.eq_2 (And.intro @usesOut.eq_1 @usesOut.eq_2)))) (And.intro (And.intro (And.intro @usesOut.eq_3 @usesOut.eq_4) (And.intro @ren.eq_1 (And.intro @ren.eq_2 @ren.eq_3))) (And.intro (And.intro @ren.eq_4 @renC.eq_1) (And.intro @renC.eq_2 (And.intro @List.foldl.eq_1.{0,0} @List.foldl.eq_2.{0,0}))))) := (And.intro (And.intro (And.intro (And.intro @norm.eq_1 @homeOne.eq_1) (And.intro @homeOne.eq_2 @moveTo.eq_1)) (And.intro (And.intro @keepS.eq_1 @keepGo.eq_1) (And.intro @keepGo.eq_2 (And.intro @usesOut.eq_1 @usesOut.eq_2)))) (And.intro (And.intro (And.intro @usesOut.eq_3 @usesOut.eq_4) (And.intro @ren.eq_1 (And.intro @ren.eq_2 @ren.eq_3))) (And.intro (And.intro @ren.eq_4 @renC.eq_1) (And.intro @renC.eq_2 (And.intro @List.foldl.eq_1.{0,0} @List.foldl.eq_2.{0,0})))))
end Go.Proofs.YtoeblmcibheldaaDoor.V
end
end
section
namespace Go.Proofs.YtoeblmcibheldaaDoor.V
open Go Go.RowKit
section
variable {P : Program} {T : List (Nat × TI)} {st : St} {o : Oper}
/-- an element of a variable that is an array of texts -/
theorem does_gidx {t e : TypeId} {g n : Nat} {cs : Array Value} {y : Operand} {k : IntKind} {i : Int} {b : ByteArray} (ho : o.op = .indexAddr t (.global g) y) (hu : P.underlying t = some (.array n e)) (hi0 : (P.info? e).map (·.size) = some 1)
  (hg : (g, (· = cs)) ∈ gls) (hy : ref st y = .v false (.int k) i) (hb : 0 ≤ i ∧ i < (n : Int)) (hc : cs[i.toNat]? = some (.string b)) (hd : nonroot st o.dst = true) : Does P o st (· = setD st o.dst (.fadr .str b)) := by
 refine Does.pure hd rfl fun L a w hr => ?_
 obtain ⟨ti, hi, h1⟩ := Option.map_eq_some_iff.1 hi0
 have hy0 := hr.opnd y
 rw [hy] at hy0
 have hyv := hy0.int
 obtain ⟨z, cs', x1, x2, e1, e2⟩ := hr.zlt.gl _ hg
 have e2 : cs' = cs := e2
 subst e2
 have hz : ∀ w, (sizeOf e).run P w = .ok 1 w := fun w => by rw [run_size hi, h1]
 refine ⟨.pointer (some ((⟨g, 0, none⟩ : Addr).add i.toNat)), ?_, ⟨_, [.string b], rfl, rfl, ?_, ?_, ?_⟩⟩
 ·have hx : a.eval (.global g) = .pointer (some ⟨g, 0, none⟩) := rfl
  simp [execOp, ho, hx, hyv, Instr.indexAt, Instr.sureAddr, run_underlying hu, asIntOf, hb.1, hb.2, hz]
 ·rw [add_block]; exact z
 ·intro j hj
  obtain rfl : j = 0 := Nat.lt_one_iff.1 hj
  have e1 : w.heap[g]? = some (.cells cs' x1 x2) := e1
  rw [add_add, Nat.add_zero, cell_row e1, hc]
  rfl
 ·simp [Rep]
def bstr (ys : List Int) : ByteArray := ⟨(ys.map fun n => UInt8.ofNat n.toNat).toArray⟩
theorem src_bytes {w : World} {Z : Nat → Prop} {f : Fl} {ys : List Int} {v : Value} {Bs : Nat → Nat → Prop} (h : Src w Z (.int .u8) f ys v Bs) : ∃ X c, v = .slice X ys.length c ∧ ∀ w', w'.heap = w.heap → (Builtin.firstCells 1 ys.length v).run P w' = .ok (ys.map (Value.int .u8)).toArray w' := by
 obtain ⟨X, c, news, rfl, n1, n2, n3, n4⟩ := h.news (P := P) (by decide)
 refine ⟨X, c, rfl, fun w' hw => ?_⟩
 have e : news = ys.map (Value.int .u8) := by
  have n1 : news.length = ys.length := by simpa [Sh.size] using n1
  refine List.ext_getElem (by simpa using n1) fun i h1 h2 => ?_
  have hi : i < ys.length := by omega
  obtain ⟨c', q1, q2, q3⟩ := n4 i hi
  simp only [Rep] at q3
  have := q2 0 (by decide)
  simp only [Sh.size, Nat.mul_one, Nat.add_zero] at this
  rw [q3, List.getElem?_eq_getElem h1] at this
  have := Option.some.inj this
  rw [this, List.getElem_map]
  congr 1
  rw [List.getD_eq_getElem?_getD, List.getElem?_eq_getElem hi]
  rfl
 rw [← e]
 exact n3 w' hw
/-- a row of bytes as a text -/
theorem does_tostr {src dst e e' : TypeId} {x : Operand} {ys : List Int} (ho : o.op = .convert src dst x) (hs : P.underlying src = some (.slice e)) (he : P.underlying e = some (.int .u8)) (hd0 : P.underlying dst = some .string)
  (hr0 : rowOf st e' (.int .u8) (ref st x) = some ys) (hd : nonroot st o.dst = true) : Does P o st (· = setD st o.dst (.v false .str (bstr ys))) := by
 refine Does.pure hd rfl fun L a w hr => ?_
 have hsrc := src_of hr (fun _ _ _ _ _ h => h) (hr.opnd x) hr0 (.inl rfl)
 obtain ⟨X, c, hv, hf⟩ := src_bytes (P := P) hsrc
 refine ⟨.string (bstr ys), ?_, .mkStr _⟩
 have h1 : (convert src dst (a.eval x)).run P w = .ok (.string (bstr ys)) w := by
  rw [hv, run_convert_bytes_string w src dst e X _ c hs he hd0]
  have hf := hf w rfl
  rw [hv] at hf
  cases X with
  | none =>
   have : ys = [] := by
    cases ys with
    | nil => rfl
    | cons y ys => simp [Builtin.firstCells] at hf
   subst this
   rfl
  | some A =>
   rw [run_bytesToString w A ys.length c ys (by simpa [Builtin.firstCells] using hf), foldl_push_bytes]
   rw [show ByteArray.empty.data = #[] from rfl, Array.empty_append]
   rfl
 simp [execOp, ho, h1]
def sbytes (b : ByteArray) : List Int := b.data.toList.map fun c => (c.toNat : Int)
theorem sbytes_len (b : ByteArray) : (sbytes b).length = b.size := by
 unfold sbytes
 rw [List.length_map, Array.length_toList]
 rfl
theorem does_goes {st1 : St} {pv : PV} (hg : ∀ (L : Lay) (a : Act) (w : World), Rel L st a w Free → Goes P o a w L st1 pv) (hd : nonroot st1 o.dst = true) : Does P o st (· = setD st1 o.dst pv) := by
 intro L a w next Q h hk
 obtain ⟨v, w', hrun, hto⟩ := hg L a w h
 obtain ⟨L', q1, q2⟩ := hto o.dst (nonroot_spec hd)
 have := hk _ L' _ w' rfl q1 q2
 unfold Oper.wp
 rcases hrun with hrun | ⟨hrun, rfl⟩
 ·rw [hrun]; exact this
 ·rw [hrun]; exact this
/-- a text is appended to a row of bytes of one's own -/
theorem does_appstr (hT : TabOk P T) {t t2 : Nat} {e : TypeId} {x y : Operand} {b : ByteArray} {xs : List Int} {st1 : St} {bb nf : Nat} {fs : List (Bool × Sh)} {cm : Bool} {i : TI} (ho : o.op = .call ⟨.builtin .append, #[x, y], #[t, t2]⟩)
  (hi0 : tget T t = some ⟨.sl e (.int .u8), false, bb, nf, fs, cm⟩) (hi : tget T e = some i) (hu2 : P.underlying t2 = some .string) (hy : ref st y = .v false .str b) (hx : headRow st e (.int .u8) .own (ref st x) = some (xs, st1)) (hl : limOk (xs.length + b.size) i.bytes = true) (hd : nonroot st1 o.dst = true) :
  Does P o st (· = setD st1 o.dst (.root (.val false) (.sl e (.int .u8)) .own (xs ++ sbytes b))) := by
 refine does_goes (fun L a w h => ?_) hd
 obtain ⟨hu, ti, z, i1, i2, i3, i4, i5⟩ := (hT t _ hi0).sl e (.int .u8) rfl rfl
 have hby : ti.bytes = i.bytes := by
  obtain ⟨ti', z', q1, q2, q3, _⟩ := (hT e _ hi).info
  rw [i1] at q1
  obtain rfl := Option.some.inj q1
  exact q3
 obtain ⟨l1, l2⟩ := lim_of hl
 have hyv := h.opnd y
 rw [hy] at hyv
 have hyv := hyv.str
 obtain ⟨L1, B1, k1, k2, k3, k4, k5, k6⟩ := h.head (f0 := .own) (h.opnd x) hx (.inl ⟨rfl, rfl⟩)
 have hlt : ∀ b, (∃ t, L.F t b) → b < w.heap.size ∧ ¬ L.Z b := fun b ⟨t, hb⟩ => h.flt t b hb
 have hzc' : z.cells.size = Sh.size (.int .u8) := by rw [← Array.length_toList, i4]; exact (Rep.zero w L.Z (.int .u8) Free).len
 have n3 : ∀ w' : World, w'.heap = w.heap → (Builtin.firstCells (Sh.size (.int .u8)) (sbytes b).length (.string b)).run P w' = .ok ((sbytes b).map (Value.int .u8)).toArray w' := fun w' _ => by
  rw [sbytes_len]
  have e : b.extract 0 b.size = b := by simp
  simp only [Builtin.firstCells, e, sbytes, List.map_map, Sem.run_pure]
  congr 1
  apply Array.ext'
  simp
 have n4 : ∀ j, j < (sbytes b).length → ∃ c' : List Value, c'.length = Sh.size (.int .u8) ∧ (∀ k, k < Sh.size (.int .u8) → ((sbytes b).map (Value.int .u8))[j * Sh.size (.int .u8) + k]? = c'[k]?) ∧ Rep w L.Z (.int .u8) .own ((sbytes b).getD j (Sh.zero (.int .u8))) c' Free := fun j hj => by
  refine ⟨[.int .u8 ((sbytes b).getD j 0)], rfl, fun k hk => ?_, by simp [Rep]; rfl⟩
  have hk : k < 1 := hk
  obtain rfl : k = 0 := by omega
  simp only [Sh.size, Nat.mul_one, Nat.add_zero]
  rw [List.getElem?_map, List.getD_eq_getElem?_getD, List.getElem?_eq_getElem hj]
  rfl
 have n2 : ∀ u ∈ (sbytes b).map (Value.int .u8), u.oneCell' = true := fun u hu => by obtain ⟨n, _, rfl⟩ := List.mem_map.1 hu; rfl
 obtain ⟨v', w', r1, r2, ⟨r3, r4, r5, r6⟩, r7⟩ := append_core2 (P := P) (ty := o.type) (t2 := t2) (Z := L.Z) (s := .int .u8) (f := .own) (ys := sbytes b) (vy := .string b) (news := (sbytes b).map (Value.int .u8)) (B2 := Free) (Bs2 := fun _ => Free) hu i1 i3 i2 hzc' i5 k4 (.inr hu2) (fun w => by rw [sbytes_len]; simp [Builtin.lenOf])
  (by simp [Sh.size]) n2 n3 n4 (fun _ _ _ h => h) (fun _ _ _ _ _ _ h => h.elim) (fun _ _ h => h) (fun b hb => hlt b (k3 b hb).2) (fun b hb => hb.elim) h.zlt.lt (by rw [hby, sbytes_len]; exact l1) (by rw [sbytes_len]; exact l2)
 have hB1 : ∀ b, B1 b → (Free b ∨ B1 b) ∧ ∃ t, L.F t b := fun b hb => ⟨.inr hb, (k3 b hb).2⟩
 have hext : Rel L1 st1 a w' _ := k2.ext r6 (fun b hb => r7 b (by rcases hb with hb | ⟨t, hb⟩; exact k2.zlt b hb; exact (k2.flt t b hb).1) (fun hb1 => by
  have := (hB1 b hb1).1
  rcases hb with hb | ⟨t, hb⟩
  ·exact (k2.rlt b this).2 hb
  ·exact k2.rdj t b hb this))
 have hrun : (execOp a.eval o).run P w = .ok (.value v') w' := by
  simp [execOp, ho, resolve, invoke, builtin, hyv, r1]
 refine goes_r (cs := [v']) (ad := none) (B := fun b => B1 b ∨ Free b ∨ (b = w.heap.size ∧ b < w'.heap.size)) (Fd := fun b => B1 b ∨ Free b ∨ (b = w.heap.size ∧ b < w'.heap.size)) hrun ⟨r3, r4, r5, r6, fun b hb hn => r7 b hb (fun hb1 => by obtain ⟨t, ht⟩ := (hB1 b hb1).2; exact hn t ht), k1.Z, fun t b hb => .inl (k1.F t b hb)⟩ hext ⟨rfl, fun _ => rfl, rfl⟩ (fun _ h => h) (fun A hA => by cases hA) ?_ (fun b hb => ?_) (fun b hb => ?_)
 ·rw [k1.Z]
  exact r2
 ·have hold : ∀ b, (Free b ∨ B1 b) → (∃ t, L.F t b) → b < w'.heap.size ∧ ¬ L1.Z b ∧ ∀ t, ¬ L1.F t b := fun b hR hF => ⟨by have := (hlt b hF).1; omega, by rw [k1.Z]; exact (hlt b hF).2, fun t ht => k2.rdj t b ht hR⟩
  rcases hb with hb | hb | hb
  ·exact hold b (hB1 b hb).1 (hB1 b hb).2
  ·exact hb.elim
  ·obtain ⟨rfl, hb⟩ := hb
   refine ⟨hb, fun hz => ?_, fun t ht => ?_⟩
   ·have := k2.zlt _ hz; omega
   ·have := (k2.flt _ _ ht).1; omega
 ·rcases hb with hb | hb | hb
  ·exact .inl (hB1 b hb).2
  ·exact hb.elim
  ·exact .inr (by omega)
end
end Go.Proofs.YtoeblmcibheldaaDoor.V
end
section
namespace Go.Proofs.YtoeblmcibheldaaDoor.V
open Go
def bs (l : List UInt8) : ByteArray := ⟨l.toArray⟩
theorem bs_app (a b : List UInt8) : bs a ++ bs b = bs (a ++ b) := by
 apply ByteArray.ext
 show (bs a ++ bs b).data = _
 rw [ByteArray.data_append]
 simp [bs]
theorem bs_size (a : List UInt8) : (bs a).size = a.length := by simp [bs, ByteArray.size]
theorem bstr_sbytes (b : ByteArray) : bstr (sbytes b) = b := by
 apply ByteArray.ext
 simp only [bstr, sbytes, List.map_map]
 have : (fun n : Int => UInt8.ofNat n.toNat) ∘ (fun c : UInt8 => (c.toNat : Int)) = id := by
  funext c
  simp
 rw [this, List.map_id]
/-- the digits of a number, none of nought -/
def dd (u : Nat) : List UInt8 := if u = 0 then [] else Lib.decDigits u
theorem dd_step {u : Nat} (h : u ≠ 0) : dd u = dd (u / 10) ++ [UInt8.ofNat (48 + u % 10)] := by
 rw [dd, if_neg h, Lib.decDigits]
 split
 ·rename_i h1
  rw [show u / 10 = 0 by omega, dd, if_pos rfl, show u % 10 = u by omega]
  rfl
 ·rw [dd, if_neg (by omega)]
theorem itoa_dd {n : Int} (h : n ≠ 0) : Lib.itoa n = (if n < 0 then [45] else []) ++ dd n.natAbs := by
 have hd : dd n.natAbs = Lib.decDigits n.natAbs := if_neg (by omega)
 rw [hd]
 by_cases hn : n < 0
 ·rw [Lib.itoa, if_pos hn, if_pos hn]
  rfl
 ·rw [Lib.itoa, if_neg hn, if_neg hn, show n.natAbs = n.toNat by omega]
  rfl
theorem itoa_zero : Lib.itoa 0 = [48] := by
 rw [Lib.itoa, if_neg (by decide), Lib.decDigits_one (by decide)]
 rfl
theorem itoa_len {n : Int} (h0 : -9223372036854775808 ≤ n) (h1 : n ≤ 9223372036854775807) : (bs (Lib.itoa n)).size ≤ 21 := by
 rw [bs_size]
 exact Lib.itoa_length_le n h0 h1
end Go.Proofs.YtoeblmcibheldaaDoor.V
end
section
namespace Go.Proofs.YtoeblmcibheldaaDoor.V
open Go Go.RowKit
def T : List (Nat × TI) := [
 (2, ⟨(.int .i64), false, 8, 0, [], false⟩),
 (3, ⟨(.int .i64), false, 8, 0, [], false⟩),
 (4, ⟨.bool, false, 1, 0, [], false⟩),
 (5, ⟨(.int .u8), false, 1, 0, [], false⟩),
 (6, ⟨(.int .u8), false, 1, 0, [], false⟩),
 (7, ⟨(.pr (.int .i64) (.pr (.int .i64) (.pr .bool (.int .u8)))), true, 24, 4, [(false, (.int .i64)), (false, (.int .i64)), (false, .bool), (false, (.int .u8))], true⟩),
 (8, ⟨(.pr (.int .i64) (.pr (.int .i64) (.pr .bool (.int .u8)))), true, 24, 4, [(false, (.int .i64)), (false, (.int .i64)), (false, .bool), (false, (.int .u8))], true⟩),
 (9, ⟨.str, false, 16, 0, [], false⟩),
 (10, ⟨.str, false, 16, 0, [], false⟩),
 (11, ⟨.str, false, 16, 0, [], false⟩),
 (12, ⟨(.int .u64), false, 8, 0, [], false⟩),
 (21, ⟨(.int .i32), false, 4, 0, [], false⟩),
 (22, ⟨(.pr (.int .i64) (.pr (.int .i64) (.pr (.int .i64) (.int .i64)))), true, 32, 4, [(false, (.int .i64)), (false, (.int .i64)), (false, (.int .i64)), (false, (.int .i64))], true⟩),
 (23, ⟨(.pr (.int .i64) (.pr (.int .i64) (.pr (.int .i64) (.int .i64)))), true, 32, 4, [(false, (.int .i64)), (false, (.int .i64)), (false, (.int .i64)), (false, (.int .i64))], true⟩),
 (26, ⟨(.pr (.int .i64) (.pr (.int .i64) (.pr (.int .i64) (.int .i64)))), true, 32, 4, [(false, (.int .i64)), (false, (.int .i64)), (false, (.int .i64)), (false, (.int .i64))], true⟩),
 (29, ⟨(.sl 23 (.pr (.int .i64) (.pr (.int .i64) (.pr (.int .i64) (.int .i64))))), false, 24, 0, [], false⟩),
 (32, ⟨(.sl 26 (.pr (.int .i64) (.pr (.int .i64) (.pr (.int .i64) (.int .i64))))), false, 24, 0, [], false⟩),
 (40, ⟨(.sl 5 (.int .u8)), false, 24, 0, [], false⟩),
 (42, ⟨(.sl 86 (.pr (.int .i64) (.pr (.int .i64) (.int .i64)))), false, 24, 0, [], false⟩),
 (43, ⟨(.sl 3 (.int .i64)), false, 24, 0, [], false⟩),
 (44, ⟨(.sl 126 (.pr (.int .i64) (.int .i64))), false, 24, 0, [], false⟩),
 (45, ⟨(.sl 43 (.sl 3 (.int .i64))), false, 24, 0, [], false⟩),
 (46, ⟨(.sl 4 .bool), false, 24, 0, [], false⟩),
 (47, ⟨(.sl 4 .bool), true, 24, 1, [(false, (.sl 4 .bool))], false⟩),
 (48, ⟨(.sl 4 .bool), true, 24, 1, [(false, (.sl 4 .bool))], false⟩),
 (49, ⟨(.pr (.sl 86 (.pr (.int .i64) (.pr (.int .i64) (.int .i64)))) (.pr (.sl 3 (.int .i64)) (.pr (.sl 126 (.pr (.int .i64) (.int .i64))) (.pr (.sl 43 (.sl 3 (.int .i64))) (.sl 4 .bool))))), true, 120, 5, [(false, (.sl 86 (.pr (.int .i64) (.pr (.int .i64) (.int .i64))))), (false, (.sl 3 (.int .i64))), (false, (.sl 126 (.pr (.int .i64) (.int .i64)))), (false, (.sl 43 (.sl 3 (.int .i64)))), (true, (.sl 4 .bool))], false⟩),
 (50, ⟨(.pr (.sl 86 (.pr (.int .i64) (.pr (.int .i64) (.int .i64)))) (.pr (.sl 3 (.int .i64)) (.pr (.sl 126 (.pr (.int .i64) (.int .i64))) (.pr (.sl 43 (.sl 3 (.int .i64))) (.sl 4 .bool))))), true, 120, 5, [(false, (.sl 86 (.pr (.int .i64) (.pr (.int .i64) (.int .i64))))), (false, (.sl 3 (.int .i64))), (false, (.sl 126 (.pr (.int .i64) (.int .i64)))), (false, (.sl 43 (.sl 3 (.int .i64)))), (true, (.sl 4 .bool))], false⟩),
 (54, ⟨(.sl 9 .str), false, 24, 0, [], false⟩),
 (81, ⟨(.pr (.sl 5 (.int .u8)) (.pr (.int .i64) (.int .i64))), true, 40, 3, [(false, (.sl 5 (.int .u8))), (false, (.int .i64)), (false, (.int .i64))], false⟩),
 (82, ⟨(.pr (.sl 5 (.int .u8)) (.pr (.int .i64) (.int .i64))), true, 40, 3, [(false, (.sl 5 (.int .u8))), (false, (.int .i64)), (false, (.int .i64))], false⟩),
 (85, ⟨(.pr (.int .i64) (.pr (.int .i64) (.int .i64))), true, 24, 3, [(false, (.int .i64)), (false, (.int .i64)), (false, (.int .i64))], true⟩),
 (86, ⟨(.pr (.int .i64) (.pr (.int .i64) (.int .i64))), true, 24, 3, [(false, (.int .i64)), (false, (.int .i64)), (false, (.int .i64))], true⟩),
 (101, ⟨(.pr (.sl 3 (.int .i64)) (.pr (.sl 3 (.int .i64)) (.sl 3 (.int .i64)))), true, 72, 3, [(false, (.sl 3 (.int .i64))), (false, (.sl 3 (.int .i64))), (false, (.sl 3 (.int .i64)))], false⟩),
 (102, ⟨(.pr (.sl 3 (.int .i64)) (.pr (.sl 3 (.int .i64)) (.sl 3 (.int .i64)))), true, 72, 3, [(false, (.sl 3 (.int .i64))), (false, (.sl 3 (.int .i64))), (false, (.sl 3 (.int .i64)))], false⟩),
 (108, ⟨(.sl 110 (.pr (.int .i64) (.int .i64))), false, 24, 0, [], false⟩),
 (109, ⟨(.pr (.int .i64) (.int .i64)), true, 16, 2, [(false, (.int .i64)), (false, (.int .i64))], true⟩),
 (110, ⟨(.pr (.int .i64) (.int .i64)), true, 16, 2, [(false, (.int .i64)), (false, (.int .i64))], true⟩),
 (111, ⟨(.int .u32), false, 4, 0, [], false⟩),
 (114, ⟨(.int .i64), false, 8, 0, [], false⟩),
 (125, ⟨(.pr (.int .i64) (.int .i64)), true, 16, 2, [(false, (.int .i64)), (false, (.int .i64))], true⟩),
 (126, ⟨(.pr (.int .i64) (.int .i64)), true, 16, 2, [(false, (.int .i64)), (false, (.int .i64))], true⟩),
 (129, ⟨(.int .u64), false, 8, 0, [], false⟩),
 (131, ⟨(.int .u64), false, 8, 0, [], false⟩),
 (136, ⟨(.sl 142 (.pr (.int .u16) (.pr (.int .u16) (.int .u16)))), false, 24, 0, [], false⟩),
 (137, ⟨(.sl 145 (.pr (.int .u32) (.pr (.int .u32) (.int .u32)))), false, 24, 0, [], false⟩),
 (138, ⟨(.pr (.sl 142 (.pr (.int .u16) (.pr (.int .u16) (.int .u16)))) (.pr (.sl 145 (.pr (.int .u32) (.pr (.int .u32) (.int .u32)))) (.int .i64))), true, 56, 3, [(false, (.sl 142 (.pr (.int .u16) (.pr (.int .u16) (.int .u16))))), (false, (.sl 145 (.pr (.int .u32) (.pr (.int .u32) (.int .u32))))), (false, (.int .i64))], false⟩),
 (139, ⟨(.pr (.sl 142 (.pr (.int .u16) (.pr (.int .u16) (.int .u16)))) (.pr (.sl 145 (.pr (.int .u32) (.pr (.int .u32) (.int .u32)))) (.int .i64))), true, 56, 3, [(false, (.sl 142 (.pr (.int .u16) (.pr (.int .u16) (.int .u16))))), (false, (.sl 145 (.pr (.int .u32) (.pr (.int .u32) (.int .u32))))), (false, (.int .i64))], false⟩),
 (140, ⟨(.int .u16), false, 2, 0, [], false⟩),
 (141, ⟨(.pr (.int .u16) (.pr (.int .u16) (.int .u16))), true, 6, 3, [(false, (.int .u16)), (false, (.int .u16)), (false, (.int .u16))], true⟩),
 (142, ⟨(.pr (.int .u16) (.pr (.int .u16) (.int .u16))), true, 6, 3, [(false, (.int .u16)), (false, (.int .u16)), (false, (.int .u16))], true⟩),
 (144, ⟨(.pr (.int .u32) (.pr (.int .u32) (.int .u32))), true, 12, 3, [(false, (.int .u32)), (false, (.int .u32)), (false, (.int .u32))], true⟩),
 (145, ⟨(.pr (.int .u32) (.pr (.int .u32) (.int .u32))), true, 12, 3, [(false, (.int .u32)), (false, (.int .u32)), (false, (.int .u32))], true⟩),
 (163, ⟨.str, true, 16, 1, [(false, .str)], true⟩),
 (164, ⟨.str, true, 16, 1, [(false, .str)], true⟩),
 (175, ⟨(.int .u8), false, 1, 0, [], false⟩),
 (176, ⟨(.int .u8), false, 1, 0, [], false⟩),
 (178, ⟨(.int .i32), false, 4, 0, [], false⟩),
 (179, ⟨(.int .i32), false, 4, 0, [], false⟩)]
theorem tg2 : tget T 2 = some ⟨(.int .i64), false, 8, 0, [], false⟩ := by kernel_rfl
theorem tg3 : tget T 3 = some ⟨(.int .i64), false, 8, 0, [], false⟩ := by kernel_rfl
theorem tg4 : tget T 4 = some ⟨.bool, false, 1, 0, [], false⟩ := by kernel_rfl
theorem tg5 : tget T 5 = some ⟨(.int .u8), false, 1, 0, [], false⟩ := by kernel_rfl
theorem tg6 : tget T 6 = some ⟨(.int .u8), false, 1, 0, [], false⟩ := by kernel_rfl
theorem tg7 : tget T 7 = some ⟨(.pr (.int .i64) (.pr (.int .i64) (.pr .bool (.int .u8)))), true, 24, 4, [(false, (.int .i64)), (false, (.int .i64)), (false, .bool), (false, (.int .u8))], true⟩ := by kernel_rfl
theorem tg8 : tget T 8 = some ⟨(.pr (.int .i64) (.pr (.int .i64) (.pr .bool (.int .u8)))), true, 24, 4, [(false, (.int .i64)), (false, (.int .i64)), (false, .bool), (false, (.int .u8))], true⟩ := by kernel_rfl
theorem tg9 : tget T 9 = some ⟨.str, false, 16, 0, [], false⟩ := by kernel_rfl
theorem tg10 : tget T 10 = some ⟨.str, false, 16, 0, [], false⟩ := by kernel_rfl
theorem tg11 : tget T 11 = some ⟨.str, false, 16, 0, [], false⟩ := by kernel_rfl
theorem tg12 : tget T 12 = some ⟨(.int .u64), false, 8, 0, [], false⟩ := by kernel_rfl
theorem tg21 : tget T 21 = some ⟨(.int .i32), false, 4, 0, [], false⟩ := by kernel_rfl
theorem tg22 : tget T 22 = some ⟨(.pr (.int .i64) (.pr (.int .i64) (.pr (.int .i64) (.int .i64)))), true, 32, 4, [(false, (.int .i64)), (false, (.int .i64)), (false, (.int .i64)), (false, (.int .i64))], true⟩ := by kernel_rfl
theorem tg23 : tget T 23 = some ⟨(.pr (.int .i64) (.pr (.int .i64) (.pr (.int .i64) (.int .i64)))), true, 32, 4, [(false, (.int .i64)), (false, (.int .i64)), (false, (.int .i64)), (false, (.int .i64))], true⟩ := by kernel_rfl
theorem tg26 : tget T 26 = some ⟨(.pr (.int .i64) (.pr (.int .i64) (.pr (.int .i64) (.int .i64)))), true, 32, 4, [(false, (.int .i64)), (false, (.int .i64)), (false, (.int .i64)), (false, (.int .i64))], true⟩ := by kernel_rfl
theorem tg29 : tget T 29 = some ⟨(.sl 23 (.pr (.int .i64) (.pr (.int .i64) (.pr (.int .i64) (.int .i64))))), false, 24, 0, [], false⟩ := by kernel_rfl
theorem tg32 : tget T 32 = some ⟨(.sl 26 (.pr (.int .i64) (.pr (.int .i64) (.pr (.int .i64) (.int .i64))))), false, 24, 0, [], false⟩ := by kernel_rfl
theorem tg40 : tget T 40 = some ⟨(.sl 5 (.int .u8)), false, 24, 0, [], false⟩ := by kernel_rfl
theorem tg42 : tget T 42 = some ⟨(.sl 86 (.pr (.int .i64) (.pr (.int .i64) (.int .i64)))), false, 24, 0, [], false⟩ := by kernel_rfl
theorem tg43 : tget T 43 = some ⟨(.sl 3 (.int .i64)), false, 24, 0, [], false⟩ := by kernel_rfl
theorem tg44 : tget T 44 = some ⟨(.sl 126 (.pr (.int .i64) (.int .i64))), false, 24, 0, [], false⟩ := by kernel_rfl
theorem tg45 : tget T 45 = some ⟨(.sl 43 (.sl 3 (.int .i64))), false, 24, 0, [], false⟩ := by kernel_rfl
theorem tg46 : tget T 46 = some ⟨(.sl 4 .bool), false, 24, 0, [], false⟩ := by kernel_rfl
theorem tg47 : tget T 47 = some ⟨(.sl 4 .bool), true, 24, 1, [(false, (.sl 4 .bool))], false⟩ := by kernel_rfl
theorem tg48 : tget T 48 = some ⟨(.sl 4 .bool), true, 24, 1, [(false, (.sl 4 .bool))], false⟩ := by kernel_rfl
theorem tg49 : tget T 49 = some ⟨(.pr (.sl 86 (.pr (.int .i64) (.pr (.int .i64) (.int .i64)))) (.pr (.sl 3 (.int .i64)) (.pr (.sl 126 (.pr (.int .i64) (.int .i64))) (.pr (.sl 43 (.sl 3 (.int .i64))) (.sl 4 .bool))))), true, 120, 5, [(false, (.sl 86 (.pr (.int .i64) (.pr (.int .i64) (.int .i64))))), (false, (.sl 3 (.int .i64))), (false, (.sl 126 (.pr (.int .i64) (.int .i64)))), (false, (.sl 43 (.sl 3 (.int .i64)))), (true, (.sl 4 .bool))], false⟩ := by kernel_rfl
theorem tg50 : tget T 50 = some ⟨(.pr (.sl 86 (.pr (.int .i64) (.pr (.int .i64) (.int .i64)))) (.pr (.sl 3 (.int .i64)) (.pr (.sl 126 (.pr (.int .i64) (.int .i64))) (.pr (.sl 43 (.sl 3 (.int .i64))) (.sl 4 .bool))))), true, 120, 5, [(false, (.sl 86 (.pr (.int .i64) (.pr (.int .i64) (.int .i64))))), (false, (.sl 3 (.int .i64))), (false, (.sl 126 (.pr (.int .i64) (.int .i64)))), (false, (.sl 43 (.sl 3 (.int .i64)))), (true, (.sl 4 .bool))], false⟩ := by kernel_rfl
theorem tg54 : tget T 54 = some ⟨(.sl 9 .str), false, 24, 0, [], false⟩ := by kernel_rfl
theorem tg81 : tget T 81 = some ⟨(.pr (.sl 5 (.int .u8)) (.pr (.int .i64) (.int .i64))), true, 40, 3, [(false, (.sl 5 (.int .u8))), (false, (.int .i64)), (false, (.int .i64))], false⟩ := by kernel_rfl
theorem tg82 : tget T 82 = some ⟨(.pr (.sl 5 (.int .u8)) (.pr (.int .i64) (.int .i64))), true, 40, 3, [(false, (.sl 5 (.int .u8))), (false, (.int .i64)), (false, (.int .i64))], false⟩ := by kernel_rfl
theorem tg85 : tget T 85 = some ⟨(.pr (.int .i64) (.pr (.int .i64) (.int .i64))), true, 24, 3, [(false, (.int .i64)), (false, (.int .i64)), (false, (.int .i64))], true⟩ := by kernel_rfl
theorem tg86 : tget T 86 = some ⟨(.pr (.int .i64) (.pr (.int .i64) (.int .i64))), true, 24, 3, [(false, (.int .i64)), (false, (.int .i64)), (false, (.int .i64))], true⟩ := by kernel_rfl
theorem tg101 : tget T 101 = some ⟨(.pr (.sl 3 (.int .i64)) (.pr (.sl 3 (.int .i64)) (.sl 3 (.int .i64)))), true, 72, 3, [(false, (.sl 3 (.int .i64))), (false, (.sl 3 (.int .i64))), (false, (.sl 3 (.int .i64)))], false⟩ := by kernel_rfl
theorem tg102 : tget T 102 = some ⟨(.pr (.sl 3 (.int .i64)) (.pr (.sl 3 (.int .i64)) (.sl 3 (.int .i64)))), true, 72, 3, [(false, (.sl 3 (.int .i64))), (false, (.sl 3 (.int .i64))), (false, (.sl 3 (.int .i64)))], false⟩ := by kernel_rfl
theorem tg108 : tget T 108 = some ⟨(.sl 110 (.pr (.int .i64) (.int .i64))), false, 24, 0, [], false⟩ := by kernel_rfl
theorem tg109 : tget T 109 = some ⟨(.pr (.int .i64) (.int .i64)), true, 16, 2, [(false, (.int .i64)), (false, (.int .i64))], true⟩ := by kernel_rfl
theorem tg110 : tget T 110 = some ⟨(.pr (.int .i64) (.int .i64)), true, 16, 2, [(false, (.int .i64)), (false, (.int .i64))], true⟩ := by kernel_rfl
theorem tg111 : tget T 111 = some ⟨(.int .u32), false, 4, 0, [], false⟩ := by kernel_rfl
theorem tg114 : tget T 114 = some ⟨(.int .i64), false, 8, 0, [], false⟩ := by kernel_rfl
theorem tg125 : tget T 125 = some ⟨(.pr (.int .i64) (.int .i64)), true, 16, 2, [(false, (.int .i64)), (false, (.int .i64))], true⟩ := by kernel_rfl
theorem tg126 : tget T 126 = some ⟨(.pr (.int .i64) (.int .i64)), true, 16, 2, [(false, (.int .i64)), (false, (.int .i64))], true⟩ := by kernel_rfl
theorem tg129 : tget T 129 = some ⟨(.int .u64), false, 8, 0, [], false⟩ := by kernel_rfl
theorem tg131 : tget T 131 = some ⟨(.int .u64), false, 8, 0, [], false⟩ := by kernel_rfl
theorem tg136 : tget T 136 = some ⟨(.sl 142 (.pr (.int .u16) (.pr (.int .u16) (.int .u16)))), false, 24, 0, [], false⟩ := by kernel_rfl
theorem tg137 : tget T 137 = some ⟨(.sl 145 (.pr (.int .u32) (.pr (.int .u32) (.int .u32)))), false, 24, 0, [], false⟩ := by kernel_rfl
theorem tg138 : tget T 138 = some ⟨(.pr (.sl 142 (.pr (.int .u16) (.pr (.int .u16) (.int .u16)))) (.pr (.sl 145 (.pr (.int .u32) (.pr (.int .u32) (.int .u32)))) (.int .i64))), true, 56, 3, [(false, (.sl 142 (.pr (.int .u16) (.pr (.int .u16) (.int .u16))))), (false, (.sl 145 (.pr (.int .u32) (.pr (.int .u32) (.int .u32))))), (false, (.int .i64))], false⟩ := by kernel_rfl
theorem tg139 : tget T 139 = some ⟨(.pr (.sl 142 (.pr (.int .u16) (.pr (.int .u16) (.int .u16)))) (.pr (.sl 145 (.pr (.int .u32) (.pr (.int .u32) (.int .u32)))) (.int .i64))), true, 56, 3, [(false, (.sl 142 (.pr (.int .u16) (.pr (.int .u16) (.int .u16))))), (false, (.sl 145 (.pr (.int .u32) (.pr (.int .u32) (.int .u32))))), (false, (.int .i64))], false⟩ := by kernel_rfl
theorem tg140 : tget T 140 = some ⟨(.int .u16), false, 2, 0, [], false⟩ := by kernel_rfl
theorem tg141 : tget T 141 = some ⟨(.pr (.int .u16) (.pr (.int .u16) (.int .u16))), true, 6, 3, [(false, (.int .u16)), (false, (.int .u16)), (false, (.int .u16))], true⟩ := by kernel_rfl
theorem tg142 : tget T 142 = some ⟨(.pr (.int .u16) (.pr (.int .u16) (.int .u16))), true, 6, 3, [(false, (.int .u16)), (false, (.int .u16)), (false, (.int .u16))], true⟩ := by kernel_rfl
theorem tg144 : tget T 144 = some ⟨(.pr (.int .u32) (.pr (.int .u32) (.int .u32))), true, 12, 3, [(false, (.int .u32)), (false, (.int .u32)), (false, (.int .u32))], true⟩ := by kernel_rfl
theorem tg145 : tget T 145 = some ⟨(.pr (.int .u32) (.pr (.int .u32) (.int .u32))), true, 12, 3, [(false, (.int .u32)), (false, (.int .u32)), (false, (.int .u32))], true⟩ := by kernel_rfl
theorem tg163 : tget T 163 = some ⟨.str, true, 16, 1, [(false, .str)], true⟩ := by kernel_rfl
theorem tg164 : tget T 164 = some ⟨.str, true, 16, 1, [(false, .str)], true⟩ := by kernel_rfl
theorem tg175 : tget T 175 = some ⟨(.int .u8), false, 1, 0, [], false⟩ := by kernel_rfl
theorem tg176 : tget T 176 = some ⟨(.int .u8), false, 1, 0, [], false⟩ := by kernel_rfl
theorem tg178 : tget T 178 = some ⟨(.int .i32), false, 4, 0, [], false⟩ := by kernel_rfl
theorem tg179 : tget T 179 = some ⟨(.int .i32), false, 4, 0, [], false⟩ := by kernel_rfl
theorem wq : type_of% (And.intro (And.intro (And.intro (And.intro (And.intro (And.intro tg2 (And.intro tg3 tg4)) (And.intro (And.intro tg5 tg6) (And.intro tg7 tg8))) (And.intro (And.intro tg9 (And.intro tg10 tg11)) (And.intro (And.intro tg12 tg21) (And.intro tg22 tg23)))) (And.intro (And.intro (And.intro tg26 (And.intro tg29 tg32)) (And.intro (And.intro tg40 tg42) (And.intro tg43 tg44))) (And.intro (And.intro (And.intro tg45 tg46) (And.intro tg47 tg48)) (And.intro (And.intro tg49 tg50) (And.intro tg54 tg81))))) (And.intro (And.intro (And.intro (And.intro tg82 (And.intro tg85 tg86)) (And.intro (And.intro tg101 tg102) (And.intro tg108 tg109))) (And.intro (And.intro tg110 (And.intro tg111 tg114)) (And.intro (And.intro tg125 tg126) (And.intro tg129 tg131)))) (And.intro (And.intro (And.intro tg136 (And.intro tg137 tg138)) (And.intro (And.intro tg139 tg140) (And.intro tg141 tg142))) (And.intro (And.intro (And.intro tg144 tg145) (And.intro tg163 tg164)) (And.intro (And.intro tg175 tg176) (And.intro tg178 tg179)))))) wq0) := (And.intro (And.intro (And.intro (And.intro (And.intro (And.intro tg2 (And.intro tg3 tg4)) (And.intro (And.intro tg5 tg6) (And.intro tg7 tg8))) (And.intro (And.intro tg9 (And.intro tg10 tg11)) (And.intro (And.intro tg12 tg21) (And.intro tg22 tg23)))) (And.intro (And.intro (And.intro tg26 (And.intro tg29 tg32)) (And.intro (And.intro tg40 tg42) (And.intro tg43 tg44))) (And.intro (And.intro (And.intro tg45 tg46) (And.intro tg47 tg48)) (And.intro (And.intro tg49 tg50) (And.intro tg54 tg81))))) (And.intro (And.intro (And.intro (And.intro tg82 (And.intro tg85 tg86)) (And.intro (And.intro tg101 tg102) (And.intro tg108 tg109))) (And.intro (And.intro tg110 (And.intro tg111 tg114)) (And.intro (And.intro tg125 tg126) (And.intro tg129 tg131)))) (And.intro (And.intro (And.intro tg136 (And.intro tg137 tg138)) (And.intro (And.intro tg139 tg140) (And.intro tg141 tg142))) (And.intro (And.intro (And.intro tg144 tg145) (And.intro tg163 tg164)) (And.intro (And.intro tg175 tg176) (And.intro tg178 tg179)))))) wq0)
theorem hT : TabOk Tryd.prog T := tab_ok (by kernel_rfl)
end Go.Proofs.YtoeblmcibheldaaDoor.V
end
section
namespace Go.Proofs.YtoeblmcibheldaaDoor.V.W
open Go Go.RowKit
theorem hm : Tryd.prog.follows .mixedOrders = true := by kernel_rfl
abbrev D : PV := .dead
abbrev Nd := Int × Int × Int
abbrev z : Nd := (0, 0, 0)
def inB (x a b : Int) : Bool := decide (x ≥ a) && decide (x ≤ b)
theorem inB_iff {x a b : Int} : inB x a b = true ↔ a ≤ x ∧ x ≤ b := by simp [inB]
theorem within_vc (x a b : Int) : VC Tryd.prog 28 [.v false (.int .i64) (x), .v false (.int .i64) (a), .v false (.int .i64) (b)] (· = .v false .bool (inB x a b)) := by
 refine VC.of_body hT Tryd.func28 rfl (by kernel_rfl) [(.tmp 6, false, .bool)] (by kernel_rfl) ?_
 show VW _ _ ([.v false (.int .i64) (x), .v false (.int .i64) (a), .v false (.int .i64) (b), D, D, D, D, D, D, D, D, D, D, D, D]) _
 repeat refine VW.seq ?_
 refine VW.regl hT fun K hK => ?_
 simp only [wq, simprocAttr]
 refine hK _ ?_
 clear hK K
 try refine vthen_n ?_
 repeat refine VW.seq ?_
 refine VW.regl hT fun K hK => ?_
 simp only [wq, simprocAttr]
 refine vbr (fun h => ?_) (fun h => ?_) <;> simp only [wq, simprocAttr]
 ·refine hK _ ?_
  clear hK K
  try refine vthen_n ?_
  refine VW.ret ⟨.inl rfl, _, rfl, ?_⟩
  simp only [inB, h, Bool.true_and]
 ·refine hK _ ?_
  clear hK K
  try refine vthen_n ?_
  refine VW.ret ⟨.inl rfl, _, rfl, ?_⟩
  simp only [inB, h, Bool.not_true, Bool.false_and]
theorem in_vc (x a b : Int) : VC Tryd.prog 25 [.v false (.int .i64) (x), .v false (.int .i64) (a), .v false (.int .i64) (b)] (· = .v false .bool (inB x a b)) := by
 refine VC.of_body hT Tryd.func25 rfl (by kernel_rfl) [(.tmp 6, false, .bool)] (by kernel_rfl) ?_
 show VW _ _ ([.v false (.int .i64) (x), .v false (.int .i64) (a), .v false (.int .i64) (b), D, D, D, D, D, D, D, D, D, D, D, D]) _
 repeat refine VW.seq ?_
 refine VW.regl hT fun K hK => ?_
 simp only [wq, simprocAttr]
 refine hK _ ?_
 clear hK K
 try refine vthen_n ?_
 repeat refine VW.seq ?_
 refine VW.regl hT fun K hK => ?_
 simp only [wq, simprocAttr]
 refine vbr (fun h => ?_) (fun h => ?_) <;> simp only [wq, simprocAttr]
 ·refine hK _ ?_
  clear hK K
  try refine vthen_n ?_
  refine VW.ret ⟨.inl rfl, _, rfl, ?_⟩
  simp only [inB, h, Bool.true_and]
 ·refine hK _ ?_
  clear hK K
  try refine vthen_n ?_
  refine VW.ret ⟨.inl rfl, _, rfl, ?_⟩
  simp only [inB, h, Bool.not_true, Bool.false_and]
/-- where p holds first -/
def IdxOf (p : Nd → Bool) (xs : List Nd) (m : Int) : Prop := (m = -1 ∧ ∀ k, k < xs.length → p (xs.getD k z) = false) ∨ ∃ i : Nat, i < xs.length ∧ m = i ∧ p (xs.getD i z) = true ∧ ∀ k, k < i → p (xs.getD k z) = false
theorem IdxOf.any {p : Nd → Bool} {xs : List Nd} {m : Int} (h : IdxOf p xs m) : decide (m ≥ 0) = xs.any p := by
 rcases h with ⟨rfl, h⟩ | ⟨i, h1, rfl, h2, _⟩
 ·have : xs.any p = false := by
   rw [List.any_eq_false]
   intro x hx
   obtain ⟨k, hk, rfl⟩ := List.mem_iff_getElem.1 hx
   have := h k hk
   rw [List.getD_eq_getElem?_getD, List.getElem?_eq_getElem hk] at this
   simpa using this
  rw [this]; rfl
 ·have : xs.any p = true := by
   rw [List.any_eq_true]
   refine ⟨xs[i], List.getElem_mem h1, ?_⟩
   rw [List.getD_eq_getElem?_getD, List.getElem?_eq_getElem h1] at h2
   exact h2
  rw [this]; simp
/-- two nodes at one place -/
def same (g x : Nd) : Bool := x.1 == g.1 && x.2.1 == g.2.1
end Go.Proofs.YtoeblmcibheldaaDoor.V.W
end
section
namespace Go.Proofs
open Go.Shelf
def Tryd.laysM171_ren : Go.Shelf.Ren := ⟨fun | 171 => 37 | 243 => 50 | 246 => 62 | 283 => 75 | 284 => 76 | 285 => 77 | 286 => 78 | 129 => 87 | 317 => 86 | 318 => 88 | 319 => 89 | 320 => 90 | 337 => 94 | 338 => 95 | n => n, fun | 3 => 3 | 9 => 9 | 2 => 2 | 4 => 4 | 171 => 130 | 0 => 0 | 53 => 131 | 37 => 40 | 5 => 5 | 173 => 134 | 212 => 156 | 51 => 111 | 20 => 20 | 213 => 157 | 46 => 129 | 232 => 167 | 233 => 168 | n => n, fun | 17 => 6 | 18 => 7 | 19 => 8 | n => n⟩
theorem Tryd.laysM171 : Go.Proofs.LaysM.n171 Tryd.prog Tryd.laysM171_ren := {
 mixed := by kernel_rfl
 f129 := Tryd.func87.trans (congrArg some (by kernel_rfl))
 f171 := Tryd.func37.trans (congrArg some (by kernel_rfl))
 f243 := Tryd.func50.trans (congrArg some (by kernel_rfl))
 f246 := Tryd.func62.trans (congrArg some (by kernel_rfl))
 f283 := Tryd.func75.trans (congrArg some (by kernel_rfl))
 f284 := Tryd.func76.trans (congrArg some (by kernel_rfl))
 f285 := Tryd.func77.trans (congrArg some (by kernel_rfl))
 f286 := Tryd.func78.trans (congrArg some (by kernel_rfl))
 f317 := Tryd.func86.trans (congrArg some (by kernel_rfl))
 f318 := Tryd.func88.trans (congrArg some (by kernel_rfl))
 f319 := Tryd.func89.trans (congrArg some (by kernel_rfl))
 f320 := Tryd.func90.trans (congrArg some (by kernel_rfl))
 f337 := Tryd.func94.trans (congrArg some (by kernel_rfl))
 f338 := Tryd.func95.trans (congrArg some (by kernel_rfl))
 t0 := Tryd.underlying0
 a0 := Tryd.isAgg0
 z0 := Tryd.sizeOf0
 v0 := Tryd.zeroValue0
 t2 := Tryd.underlying2
 a2 := Tryd.isAgg2
 z2 := Tryd.sizeOf2
 v2 := Tryd.zeroValue2
 t3 := Tryd.underlying3
 a3 := Tryd.isAgg3
 z3 := Tryd.sizeOf3
 v3 := Tryd.zeroValue3
 t4 := Tryd.underlying4
 a4 := Tryd.isAgg4
 z4 := Tryd.sizeOf4
 v4 := Tryd.zeroValue4
 t5 := Tryd.underlying5
 a5 := Tryd.isAgg5
 z5 := Tryd.sizeOf5
 v5 := Tryd.zeroValue5
 t9 := Tryd.underlying9
 a9 := Tryd.isAgg9
 z9 := Tryd.sizeOf9
 v9 := Tryd.zeroValue9
 t20 := Tryd.underlying20
 a20 := Tryd.isAgg20
 z20 := Tryd.sizeOf20
 v20 := Tryd.zeroValue20
 t37 := Tryd.underlying40
 a37 := Tryd.isAgg40
 z37 := Tryd.sizeOf40
 v37 := Tryd.zeroValue40
 t46 := Tryd.underlying129
 a46 := Tryd.isAgg129
 z46 := Tryd.sizeOf129
 v46 := Tryd.zeroValue129
 t51 := Tryd.underlying111
 a51 := Tryd.isAgg111
 z51 := Tryd.sizeOf111
 v51 := Tryd.zeroValue111
 t53 := Tryd.underlying131
 a53 := Tryd.isAgg131
 z53 := Tryd.sizeOf131
 v53 := Tryd.zeroValue131
 t171 := Tryd.underlying130
 a171 := Tryd.isAgg130
 z171 := Tryd.sizeOf130
 v171 := Tryd.zeroValue130
 t173 := Tryd.underlying134
 a173 := Tryd.isAgg134
 z173 := Tryd.sizeOf134
 v173 := Tryd.zeroValue134
 t212 := Tryd.underlying156
 a212 := Tryd.isAgg156
 z212 := Tryd.sizeOf156
 v212 := Tryd.zeroValue156
 t213 := Tryd.underlying157
 a213 := Tryd.isAgg157
 z213 := Tryd.sizeOf157
 t232 := Tryd.underlying167
 a232 := Tryd.isAgg167
 z232 := Tryd.sizeOf167
 v232 := Tryd.zeroValue167
 t233 := Tryd.underlying168
 a233 := Tryd.isAgg168
 z233 := Tryd.sizeOf168
 v233 := Tryd.zeroValue168
 g17 := by kernel_rfl
 g18 := by kernel_rfl
 g19 := by kernel_rfl
 i0 := by kernel_rfl
 i2 := by kernel_rfl
 i3 := by kernel_rfl
 i4 := by kernel_rfl
 i5 := by kernel_rfl
 i9 := by kernel_rfl
 i20 := by kernel_rfl
 i37 := by kernel_rfl
 i46 := by kernel_rfl
 i51 := by kernel_rfl
 i53 := by kernel_rfl
 i171 := by kernel_rfl
 i173 := by kernel_rfl
 i212 := by kernel_rfl
 i232 := by kernel_rfl
 i233 := by kernel_rfl
 m17 := by kernel_rfl
 m18 := by kernel_rfl
 m19 := by kernel_rfl }
open Go.RowKit Go.Sort Go.Lib in
/-- strconv.Itoa: "Itoa is equivalent to FormatInt(int64(i), 10).": i's DECIMAL NUMERAL ('Lib.itoa': a '-' where i is negative, then the digits), FOR EVERY int. The world behind the call: the world before it, new blocks behind the heap (the library's 'var a [24]byte'), draws. (LAID: no walk: one application.) -/
theorem Tryd.strconv_Itoa (n : Int) (h0 : -9223372036854775808 ≤ n) (h1 : n ≤ 9223372036854775807) (w : World) (htab : Lib.TabIs Tryd.prog w "internal/strconv.uint64pow10" .u64 Lib.pow10Tab) :
  Calls Tryd.prog 37 #[.int .i64 n] w fun e w' => e = .returned (.string ⟨(Lib.itoa n).toArray⟩) ∧ ∃ k os, w' = grow (w.drewN k) os := Any.strconv_Itoa Tryd.laysM171 n h0 h1 w htab
end Go.Proofs
end
section
namespace Go.Proofs.YtoeblmcibheldaaDoor.V.W
open Go Go.RowKit Go.Proofs.YtoeblmcibheldaaDoor.V
theorem gl_pow : (6, fun cs => cs = (Lib.pow10Tab.map fun z => Value.int .u64 z).toArray) ∈ gls := .tail _ (.head _)
theorem itoa_vc (n : Int) (h0 : -9223372036854775808 ≤ n) (h1 : n ≤ 9223372036854775807) : VC Tryd.prog 37 [.v false (.int .i64) n] (· = .v false .str (bs (Lib.itoa n))) := by
 refine ⟨⟨_, Tryd.func37, by kernel_rfl, by kernel_rfl⟩, fun Z w vals hz hl ha => ?_⟩
 obtain ⟨v, rfl⟩ : ∃ v, vals = [v] := by
  match vals, hl with
  | [v], _ => exact ⟨v, rfl⟩
 obtain ⟨cs, m1, m2⟩ := (ha 0 _ _ rfl rfl : ARep w Z (.v false (.int .i64) n) v)
 simp only [Rep] at m2
 subst m2
 obtain rfl : v = .int .i64 n := by simpa [mkV] using m1.symm
 obtain ⟨z, cs, x, y, e1, e2⟩ := hz.gl _ gl_pow
 have htab : Lib.TabIs Tryd.prog w "internal/strconv.uint64pow10" .u64 Lib.pow10Tab := by
  have hn : Tryd.prog.globalNamed "internal/strconv.uint64pow10" = some 6 := by kernel_rfl
  simp only [Lib.TabIs, World.var?, hn, Option.bind_some]
  rw [e1]
  exact congrArg some e2
 refine (Tryd.strconv_Itoa n h0 h1 w htab).mono fun e w' ⟨he, k, os, hw⟩ => ⟨_, _, he, ?_, rfl, ⟨_, rfl, by simp only [Rep]; rfl⟩⟩
 subst hw
 have hb := Lib.below_grow w.heap.size w (Nat.le_refl _) k os
 exact ⟨hb.os, hb.tape, hb.output, hb.size, fun b hb' => hb.block b hb'⟩
set_option maxRecDepth 20000 in
theorem formatInt_vc (n : Int) (h0 : -9223372036854775808 ≤ n) (h1 : n ≤ 9223372036854775807) : VC Tryd.prog 23 [.v false (.int .i64) n] (· = .v false .str (bs (Lib.itoa n))) := by
 refine VC.of_body hT Tryd.func23 rfl (by kernel_rfl) [(.tmp 2, false, .str)] (by kernel_rfl) ?_
 show VW _ _ ([.v false (.int .i64) n, D, D, D, D]) _
 repeat refine VW.seq ?_
 refine VW.regl hT fun K hK => ?_
 simp only [wq, simprocAttr]
 refine hK _ ?_
 clear hK K
 try refine vthen_n ?_
 repeat refine VW.seq ?_
 refine VW.regl hT fun K hK => ?_
 simp only [wq, simprocAttr]
 refine vcall_of (itoa_vc n h0 h1) ?_
 simp only [wq, simprocAttr]
 refine hK _ ?_
 clear hK K
 try refine vthen_n ?_
 exact VW.ret ⟨.inl rfl, _, rfl, rfl⟩
end Go.Proofs.YtoeblmcibheldaaDoor.V.W
end
section
namespace Go.Proofs.YtoeblmcibheldaaDoor.V.W
open Go Go.RowKit
theorem isWord_vc (x : Int) : VC Tryd.prog 36 [.v false (.int .i64) (x)] (· = .v false .bool (inB x 0 65535)) := by
 refine VC.of_body hT Tryd.func36 rfl (by kernel_rfl) [(.tmp 2, false, .bool)] (by kernel_rfl) ?_
 show VW _ _ ([.v false (.int .i64) (x), D, D, D, D]) _
 repeat refine VW.seq ?_
 refine VW.regl hT fun K hK => ?_
 simp only [wq, simprocAttr]
 refine hK _ ?_
 clear hK K
 try refine vthen_n ?_
 repeat refine VW.seq ?_
 refine VW.regl hT fun K hK => ?_
 simp only [wq, simprocAttr]
 refine vcall_of (within_vc x 0 65535) ?_
 simp only [wq, simprocAttr]
 refine hK _ ?_
 clear hK K
 try refine vthen_n ?_
 exact VW.ret ⟨.inl rfl, _, rfl, rfl⟩
abbrev sAct : Sh := .pr (.int .i64) (.pr (.int .i64) (.pr (.int .i64) (.int .i64)))
abbrev Ac : Type := Int × Int × Int × Int
abbrev zA : Ac := (0, 0, 0, 0)
/-- an act that may be -/
def actOk (a : Ac) : Bool := inB a.2.1 0 11 && (if a.1 = 1 then inB a.2.2.1 0 65535 && inB a.2.2.2 0 65535 else if a.1 = 2 then inB a.2.2.1 0 65535 && a.2.2.2 == 0 else if a.1 = 3 ∨ a.1 = 4 then a.2.2.1 == 0 && a.2.2.2 == 0 else false)
set_option maxRecDepth 20000 in
set_option maxHeartbeats 1000000 in
theorem actOk_vc (a : Ac) : VC Tryd.prog 22 [.v true sAct a] (· = .v false .bool (actOk a)) := by
 refine VC.of_body hT Tryd.func22 rfl (by kernel_rfl) [(.tmp 2, false, .bool)] (by kernel_rfl) ?_
 generalize hr : actOk a = r
 obtain ⟨kd, nd, x, y⟩ := a
 have hr : (inB nd 0 11 && (if kd = 1 then inB x 0 65535 && inB y 0 65535 else if kd = 2 then inB x 0 65535 && y == 0 else if kd = 3 ∨ kd = 4 then x == 0 && y == 0 else false)) = r := hr
 show VW _ _ ([.v true sAct (kd, nd, x, y), D, D, D, D, D, D, D, D, D, D, D, D, D, D, D, D, D, D, D, D, D, D, D, D, D, D, D, D, D, D, D, D, D, D, D, D, D, D, D]) _
 repeat refine VW.seq ?_
 refine VW.regl hT fun K hK => ?_
 simp only [wq, simprocAttr]
 refine hK _ ?_
 clear hK K
 try refine vthen_n ?_
 repeat refine VW.seq ?_
 refine VW.regl hT fun K hK => ?_
 simp only [wq, simprocAttr]
 refine vcall_of (within_vc nd 0 11) ?_
 simp only [wq, simprocAttr]
 refine hK _ ?_
 clear hK K
 try refine vthen_n ?_
 repeat refine VW.seq ?_
 refine VW.cond rfl (fun hc => ?_) (fun hc => ?_)
 ·have hc : inB nd 0 11 = false := (Bool.not_eq_true' _).mp hc
  repeat refine VW.seq ?_
  refine VW.regl hT fun K hK => ?_
  simp only [wq, simprocAttr]
  refine hK _ ?_
  clear hK K
  try refine vthen_n ?_
  refine VW.ret ⟨.inl rfl, _, rfl, ?_⟩
  rw [← hr, hc, Bool.false_and]
 have hc : inB nd 0 11 = true := by
  have := hc
  rwa [Bool.not_eq_false'] at this
 rw [hc, Bool.true_and] at hr
 refine VW.skip (vthen_n ?_)
 repeat refine VW.seq ?_
 refine VW.regl hT fun K hK => ?_
 simp only [wq, simprocAttr]
 refine hK _ ?_
 clear hK K
 try refine vthen_n ?_
 repeat refine VW.seq ?_
 refine VW.block ?_
 repeat refine VW.seq ?_
 refine VW.regl hT fun K hK => ?_
 simp only [wq, simprocAttr]
 refine hK _ ?_
 clear hK K
 try refine vthen_n ?_
 repeat refine VW.seq ?_
 refine VW.cond rfl (fun hc => ?_) (fun hc => ?_)
 ·have hc : kd = 1 := eq_of_beq hc
  rw [if_pos hc] at hr
  repeat refine VW.seq ?_
  refine VW.regl hT fun K hK => ?_
  simp only [wq, simprocAttr]
  refine vcall_of (within_vc x 0 65535) ?_
  simp only [wq, simprocAttr]
  refine vbr (fun h => ?_) (fun h => ?_) <;> simp only [wq, simprocAttr]
  ·have h : inB x 0 65535 = true := h
   refine vcall_of (isWord_vc y) ?_
   simp only [wq, simprocAttr]
   refine hK _ ?_
   clear hK K
   try refine vthen_n ?_
   refine VW.ret ⟨.inl rfl, _, rfl, ?_⟩
   rw [← hr, h, Bool.true_and]
  ·have h : inB x 0 65535 = false := h
   refine hK _ ?_
   clear hK K
   try refine vthen_n ?_
   refine VW.ret ⟨.inl rfl, _, rfl, ?_⟩
   rw [← hr, h, Bool.false_and]
 have hc : ¬ kd = 1 := fun e => by rw [e] at hc; cases hc
 rw [if_neg hc] at hr
 repeat refine VW.seq ?_
 refine VW.regl hT fun K hK => ?_
 simp only [wq, simprocAttr]
 refine hK _ ?_
 clear hK K
 try refine vthen_n ?_
 repeat refine VW.seq ?_
 refine VW.cond rfl (fun hc => ?_) (fun hc => ?_)
 ·have hc : kd = 2 := eq_of_beq hc
  rw [if_pos hc] at hr
  repeat refine VW.seq ?_
  refine VW.regl hT fun K hK => ?_
  simp only [wq, simprocAttr]
  refine vcall_of (within_vc x 0 65535) ?_
  simp only [wq, simprocAttr]
  refine vbr (fun h => ?_) (fun h => ?_) <;> simp only [wq, simprocAttr]
  ·have h : inB x 0 65535 = true := h
   refine hK _ ?_
   clear hK K
   try refine vthen_n ?_
   refine VW.ret ⟨.inl rfl, _, rfl, ?_⟩
   rw [← hr, h, Bool.true_and]
  ·have h : inB x 0 65535 = false := h
   refine hK _ ?_
   clear hK K
   try refine vthen_n ?_
   refine VW.ret ⟨.inl rfl, _, rfl, ?_⟩
   rw [← hr, h, Bool.false_and]
 have hc : ¬ kd = 2 := fun e => by rw [e] at hc; cases hc
 rw [if_neg hc] at hr
 repeat refine VW.seq ?_
 refine VW.regl hT fun K hK => ?_
 simp only [wq, simprocAttr]
 refine hK _ ?_
 clear hK K
 try refine vthen_n ?_
 repeat refine VW.seq ?_
 refine VW.cond rfl (fun hc => ?_) (fun hc => ?_)
 ·have e3 : kd = 3 := eq_of_beq hc
  refine VW.skip (vthen_n ?_)
  repeat refine VW.seq ?_
  refine VW.cond rfl (fun hc => ?_) (fun hc => ?_)
  ·skip
   rw [if_pos (by omega)] at hr
   repeat refine VW.seq ?_
   refine VW.regl hT fun K hK => ?_
   simp only [wq, simprocAttr]
   refine vbr (fun h => ?_) (fun h => ?_) <;> simp only [wq, simprocAttr]
   ·have h : (x == 0) = true := h
    refine hK _ ?_
    clear hK K
    try refine vthen_n ?_
    refine VW.ret ⟨.inl rfl, _, rfl, ?_⟩
    rw [← hr, h, Bool.true_and]
   ·have h : (x == 0) = false := h
    refine hK _ ?_
    clear hK K
    try refine vthen_n ?_
    refine VW.ret ⟨.inl rfl, _, rfl, ?_⟩
    rw [← hr, h, Bool.false_and]
  exact absurd hc (by rw [e3]; decide)
 have h3 : ¬ kd = 3 := fun e => by rw [e] at hc; cases hc
 repeat refine VW.seq ?_
 refine VW.regl hT fun K hK => ?_
 simp only [wq, simprocAttr]
 refine hK _ ?_
 clear hK K
 try refine vthen_n ?_
 repeat refine VW.seq ?_
 refine VW.cond rfl (fun hc => ?_) (fun hc => ?_)
 ·have hc : kd = 4 := eq_of_beq hc
  rw [if_pos (by omega)] at hr
  repeat refine VW.seq ?_
  refine VW.regl hT fun K hK => ?_
  simp only [wq, simprocAttr]
  refine vbr (fun h => ?_) (fun h => ?_) <;> simp only [wq, simprocAttr]
  ·have h : (x == 0) = true := h
   refine hK _ ?_
   clear hK K
   try refine vthen_n ?_
   refine VW.ret ⟨.inl rfl, _, rfl, ?_⟩
   rw [← hr, h, Bool.true_and]
  ·have h : (x == 0) = false := h
   refine hK _ ?_
   clear hK K
   try refine vthen_n ?_
   refine VW.ret ⟨.inl rfl, _, rfl, ?_⟩
   rw [← hr, h, Bool.false_and]
 have h4 : ¬ kd = 4 := fun e => by rw [e] at hc; cases hc
 rw [if_neg (by omega)] at hr
 refine VW.skip ?_
 show vthen _ _ _ .normal _
 refine vthen_n ?_
 repeat refine VW.seq ?_
 refine VW.regl hT fun K hK => ?_
 simp only [wq, simprocAttr]
 refine hK _ ?_
 clear hK K
 try refine vthen_n ?_
 refine VW.ret ⟨.inl rfl, _, rfl, ?_⟩
 rw [← hr]
set_option maxRecDepth 20000 in
set_option maxHeartbeats 1000000 in
theorem specActOk_vc (a : Ac) : VC Tryd.prog 20 [.v true sAct a] (· = .v false .bool (actOk a)) := by
 refine VC.of_body hT Tryd.func20 rfl (by kernel_rfl) [(.tmp 2, false, .bool)] (by kernel_rfl) ?_
 generalize hr : actOk a = r
 obtain ⟨kd, nd, x, y⟩ := a
 have hr : (inB nd 0 11 && (if kd = 1 then inB x 0 65535 && inB y 0 65535 else if kd = 2 then inB x 0 65535 && y == 0 else if kd = 3 ∨ kd = 4 then x == 0 && y == 0 else false)) = r := hr
 show VW _ _ ([.v true sAct (kd, nd, x, y), D, D, D, D, D, D, D, D, D, D, D, D, D, D, D, D, D, D, D, D, D, D, D, D, D, D, D, D, D, D, D, D, D, D, D, D, D, D, D]) _
 repeat refine VW.seq ?_
 refine VW.regl hT fun K hK => ?_
 simp only [wq, simprocAttr]
 refine hK _ ?_
 clear hK K
 try refine vthen_n ?_
 repeat refine VW.seq ?_
 refine VW.regl hT fun K hK => ?_
 simp only [wq, simprocAttr]
 refine vcall_of (in_vc nd 0 11) ?_
 simp only [wq, simprocAttr]
 refine hK _ ?_
 clear hK K
 try refine vthen_n ?_
 repeat refine VW.seq ?_
 refine VW.cond rfl (fun hc => ?_) (fun hc => ?_)
 ·have hc : inB nd 0 11 = false := (Bool.not_eq_true' _).mp hc
  repeat refine VW.seq ?_
  refine VW.regl hT fun K hK => ?_
  simp only [wq, simprocAttr]
  refine hK _ ?_
  clear hK K
  try refine vthen_n ?_
  refine VW.ret ⟨.inl rfl, _, rfl, ?_⟩
  rw [← hr, hc, Bool.false_and]
 have hc : inB nd 0 11 = true := by
  have := hc
  rwa [Bool.not_eq_false'] at this
 rw [hc, Bool.true_and] at hr
 refine VW.skip (vthen_n ?_)
 repeat refine VW.seq ?_
 refine VW.regl hT fun K hK => ?_
 simp only [wq, simprocAttr]
 refine hK _ ?_
 clear hK K
 try refine vthen_n ?_
 repeat refine VW.seq ?_
 refine VW.block ?_
 repeat refine VW.seq ?_
 refine VW.regl hT fun K hK => ?_
 simp only [wq, simprocAttr]
 refine hK _ ?_
 clear hK K
 try refine vthen_n ?_
 repeat refine VW.seq ?_
 refine VW.cond rfl (fun hc => ?_) (fun hc => ?_)
 ·have hc : kd = 1 := eq_of_beq hc
  rw [if_pos hc] at hr
  repeat refine VW.seq ?_
  refine VW.regl hT fun K hK => ?_
  simp only [wq, simprocAttr]
  refine vcall_of (in_vc x 0 65535) ?_
  simp only [wq, simprocAttr]
  refine vbr (fun h => ?_) (fun h => ?_) <;> simp only [wq, simprocAttr]
  ·have h : inB x 0 65535 = true := h
   refine vcall_of (in_vc y 0 65535) ?_
   simp only [wq, simprocAttr]
   refine hK _ ?_
   clear hK K
   try refine vthen_n ?_
   refine VW.ret ⟨.inl rfl, _, rfl, ?_⟩
   rw [← hr, h, Bool.true_and]
  ·have h : inB x 0 65535 = false := h
   refine hK _ ?_
   clear hK K
   try refine vthen_n ?_
   refine VW.ret ⟨.inl rfl, _, rfl, ?_⟩
   rw [← hr, h, Bool.false_and]
 have hc : ¬ kd = 1 := fun e => by rw [e] at hc; cases hc
 rw [if_neg hc] at hr
 repeat refine VW.seq ?_
 refine VW.regl hT fun K hK => ?_
 simp only [wq, simprocAttr]
 refine hK _ ?_
 clear hK K
 try refine vthen_n ?_
 repeat refine VW.seq ?_
 refine VW.cond rfl (fun hc => ?_) (fun hc => ?_)
 ·have hc : kd = 2 := eq_of_beq hc
  rw [if_pos hc] at hr
  repeat refine VW.seq ?_
  refine VW.regl hT fun K hK => ?_
  simp only [wq, simprocAttr]
  refine vcall_of (in_vc x 0 65535) ?_
  simp only [wq, simprocAttr]
  refine vbr (fun h => ?_) (fun h => ?_) <;> simp only [wq, simprocAttr]
  ·have h : inB x 0 65535 = true := h
   refine hK _ ?_
   clear hK K
   try refine vthen_n ?_
   refine VW.ret ⟨.inl rfl, _, rfl, ?_⟩
   rw [← hr, h, Bool.true_and]
  ·have h : inB x 0 65535 = false := h
   refine hK _ ?_
   clear hK K
   try refine vthen_n ?_
   refine VW.ret ⟨.inl rfl, _, rfl, ?_⟩
   rw [← hr, h, Bool.false_and]
 have hc : ¬ kd = 2 := fun e => by rw [e] at hc; cases hc
 rw [if_neg hc] at hr
 repeat refine VW.seq ?_
 refine VW.regl hT fun K hK => ?_
 simp only [wq, simprocAttr]
 refine hK _ ?_
 clear hK K
 try refine vthen_n ?_
 repeat refine VW.seq ?_
 refine VW.cond rfl (fun hc => ?_) (fun hc => ?_)
 ·have e3 : kd = 3 := eq_of_beq hc
  refine VW.skip (vthen_n ?_)
  repeat refine VW.seq ?_
  refine VW.cond rfl (fun hc => ?_) (fun hc => ?_)
  ·skip
   rw [if_pos (by omega)] at hr
   repeat refine VW.seq ?_
   refine VW.regl hT fun K hK => ?_
   simp only [wq, simprocAttr]
   refine vbr (fun h => ?_) (fun h => ?_) <;> simp only [wq, simprocAttr]
   ·have h : (x == 0) = true := h
    refine hK _ ?_
    clear hK K
    try refine vthen_n ?_
    refine VW.ret ⟨.inl rfl, _, rfl, ?_⟩
    rw [← hr, h, Bool.true_and]
   ·have h : (x == 0) = false := h
    refine hK _ ?_
    clear hK K
    try refine vthen_n ?_
    refine VW.ret ⟨.inl rfl, _, rfl, ?_⟩
    rw [← hr, h, Bool.false_and]
  exact absurd hc (by rw [e3]; decide)
 have h3 : ¬ kd = 3 := fun e => by rw [e] at hc; cases hc
 repeat refine VW.seq ?_
 refine VW.regl hT fun K hK => ?_
 simp only [wq, simprocAttr]
 refine hK _ ?_
 clear hK K
 try refine vthen_n ?_
 repeat refine VW.seq ?_
 refine VW.cond rfl (fun hc => ?_) (fun hc => ?_)
 ·have hc : kd = 4 := eq_of_beq hc
  rw [if_pos (by omega)] at hr
  repeat refine VW.seq ?_
  refine VW.regl hT fun K hK => ?_
  simp only [wq, simprocAttr]
  refine vbr (fun h => ?_) (fun h => ?_) <;> simp only [wq, simprocAttr]
  ·have h : (x == 0) = true := h
   refine hK _ ?_
   clear hK K
   try refine vthen_n ?_
   refine VW.ret ⟨.inl rfl, _, rfl, ?_⟩
   rw [← hr, h, Bool.true_and]
  ·have h : (x == 0) = false := h
   refine hK _ ?_
   clear hK K
   try refine vthen_n ?_
   refine VW.ret ⟨.inl rfl, _, rfl, ?_⟩
   rw [← hr, h, Bool.false_and]
 have h4 : ¬ kd = 4 := fun e => by rw [e] at hc; cases hc
 rw [if_neg (by omega)] at hr
 refine VW.skip ?_
 show vthen _ _ _ .normal _
 refine vthen_n ?_
 repeat refine VW.seq ?_
 refine VW.regl hT fun K hK => ?_
 simp only [wq, simprocAttr]
 refine hK _ ?_
 clear hK K
 try refine vthen_n ?_
 refine VW.ret ⟨.inl rfl, _, rfl, ?_⟩
 rw [← hr]
end Go.Proofs.YtoeblmcibheldaaDoor.V.W
end
section
namespace Go.Proofs.YtoeblmcibheldaaDoor.V.W
open Go Go.RowKit
theorem tm10_pos {m : Int} (h : 0 ≤ m) : m.tmod 10 = ((m.natAbs % 10 : Nat) : Int) := by
 cases m with
 | ofNat k => rfl
 | negSucc k => exact absurd h (by omega)
theorem tm10_neg {m : Int} (h : m < 0) : m.tmod 10 = -((m.natAbs % 10 : Nat) : Int) := by
 cases m with
 | ofNat k => exact absurd h (by have : (0 : Int) ≤ Int.ofNat k := Int.natCast_nonneg k; omega)
 | negSucc k => rfl
theorem td10 (m : Int) : m.tdiv 10 = (if m < 0 then -((m.natAbs / 10 : Nat) : Int) else ((m.natAbs / 10 : Nat) : Int)) := by
 cases m with
 | ofNat k =>
  rw [if_neg (by have : (0 : Int) ≤ Int.ofNat k := Int.natCast_nonneg k; omega)]
  rfl
 | negSucc k =>
  rw [if_pos (by omega)]
  rfl
theorem td10_abs (m : Int) : (m.tdiv 10).natAbs = m.natAbs / 10 := by
 rw [td10]
 split <;> omega
theorem bstr_one (k : Nat) : bstr [48 + (k : Int)] = bs [UInt8.ofNat (48 + k)] := by
 show bs [UInt8.ofNat (48 + (k : Int)).toNat] = _
 rw [show (48 + (k : Int)).toNat = 48 + k by omega]
set_option maxRecDepth 20000 in
theorem figure_vc (x : Nat) (h : x < 10) : VC Tryd.prog 35 [.v false (.int .i64) (x : Int)] (· = .v false (.int .u8) (48 + x : Int)) := by
 refine VC.of_body hT Tryd.func35 rfl (by kernel_rfl) [(.tmp 2, false, .int .u8)] (by kernel_rfl) ?_
 show VW _ _ ([.v false (.int .i64) (x : Int), D, D, D, D, D, D, D, D, D, D, D]) _
 repeat refine VW.seq ?_
 refine VW.regl hT fun K hK => ?_
 simp only [wq, simprocAttr]
 refine hK _ ?_
 clear hK K
 try refine vthen_n ?_
 repeat refine VW.seq ?_
 refine VW.regl hT fun K hK => ?_
 simp only [wq, simprocAttr]
 refine hK _ ?_
 clear hK K
 try refine vthen_n ?_
 repeat refine VW.seq ?_
 refine VW.cond rfl (fun hc => ?_) (fun hc => ?_)
 ·skip
  repeat refine VW.seq ?_
  refine VW.regl hT fun K hK => ?_
  simp only [wq, simprocAttr]
  refine hK _ ?_
  clear hK K
  try refine vthen_n ?_
  refine VW.ret ⟨.inl rfl, _, rfl, ?_⟩
  show PV.v false (.int .u8) (IntKind.u8.wrap (IntKind.i64.wrap (48 + (x : Int)))) = _
  rw [wrap64 (by omega) (by omega), IntKind.wrap_u8]
  have e : (48 + (x : Int)) % 256 = 48 + x := by omega
  rw [e]
 exact absurd (of_decide_eq_false hc) (by omega)
set_option maxRecDepth 20000 in
set_option maxHeartbeats 1000000 in
theorem specFormatInt_vc (n : Int) (h0 : -9223372036854775808 ≤ n) (h1 : n ≤ 9223372036854775807) : VC Tryd.prog 21 [.v false (.int .i64) n] (· = .v false .str (bs (Lib.itoa n))) := by
 refine VC.of_body hT Tryd.func21 rfl (by kernel_rfl) [(.tmp 2, false, .str)] (by kernel_rfl) ?_
 show VW _ _ ([.v false (.int .i64) n, D, D, D, D, D, D, D, D, D, D, D, D, D, D, D, D, D, D, D, D, D, D, D, D, D, D, D, D, D]) _
 repeat refine VW.seq ?_
 refine VW.regl hT fun K hK => ?_
 simp only [wq, simprocAttr]
 refine hK _ ?_
 clear hK K
 try refine vthen_n ?_
 repeat refine VW.seq ?_
 refine VW.regl hT fun K hK => ?_
 simp only [wq, simprocAttr]
 refine hK _ ?_
 clear hK K
 try refine vthen_n ?_
 repeat refine VW.seq ?_
 refine VW.cond rfl (fun hc => ?_) (fun hc => ?_)
 ·have hc : n = 0 := eq_of_beq hc
  subst hc
  repeat refine VW.seq ?_
  refine VW.regl hT fun K hK => ?_
  simp only [wq, simprocAttr]
  refine hK _ ?_
  clear hK K
  try refine vthen_n ?_
  refine VW.ret ⟨.inl rfl, _, rfl, ?_⟩
  rw [itoa_zero]
  rfl
 have hn : n ≠ 0 := fun e => by rw [e] at hc; cases hc
 have hll : (dd n.natAbs).length ≤ 21 := by
  have := itoa_len h0 h1
  rw [bs_size, itoa_dd hn, List.length_append] at this
  omega
 refine VW.skip (vthen_n ?_)
 repeat refine VW.seq ?_
 refine VW.regl hT fun K hK => ?_
 simp only [wq, simprocAttr]
 refine hK _ ?_
 clear hK K
 try refine vthen_n ?_
 repeat refine VW.seq ?_
 refine VW.regl hT fun K hK => ?_
 simp only [wq, simprocAttr]
 refine hK _ ?_
 clear hK K
 try refine vthen_n ?_
 repeat refine VW.seq ?_
 refine VW.block ?_
 refine VW.loop (α := Int × List UInt8) [(0, none), (3, none), (4, none)] (fun q => [.v false (.int .i64) q.1, D, D, .v false .bool (decide (n < 0)), .v false .str (bs q.2), D, D, D, D, D, D, D, D, D, D, D, D, D, D, D, D, D, D, D, D, D, D, D, D, D]) (fun q => (-9223372036854775808 ≤ q.1 ∧ q.1 ≤ 9223372036854775807) ∧ dd q.1.natAbs ++ q.2 = dd n.natAbs) (fun q => q.1.natAbs) ⟨(n, []), ⟨⟨h0, h1⟩, by simp⟩, ?_⟩ fun q ⟨hq, hd⟩ => ?_
 ·simp only [wn, wq, simprocAttr]
  try rfl
 obtain ⟨m, l⟩ := q
 have hq : -9223372036854775808 ≤ m ∧ m ≤ 9223372036854775807 := hq
 have hd : dd m.natAbs ++ l = dd n.natAbs := hd
 have hl : l.length ≤ 21 := by
  have := congrArg List.length hd
  rw [List.length_append] at this
  omega
 repeat refine VW.seq ?_
 refine VW.regl hT fun K hK => ?_
 simp only [wq, simprocAttr]
 refine hK _ ?_
 clear hK K
 try refine vthen_n ?_
 repeat refine VW.seq ?_
 refine VW.cond rfl (fun hc => ?_) (fun hc => ?_)
 ·have hm0 : m ≠ 0 := fun e => by rw [e] at hc; cases hc
  refine VW.skip (vthen_n ?_)
  repeat refine VW.seq ?_
  refine VW.block ?_
  repeat refine VW.seq ?_
  refine VW.regl hT fun K hK => ?_
  simp only [wq, simprocAttr]
  refine ⟨decide_eq_false id, ?_⟩
  refine hK _ ?_
  clear hK K
  try refine vthen_n ?_
  repeat refine VW.seq ?_
  refine VW.regl hT fun K hK => ?_
  simp only [wq, simprocAttr]
  refine hK _ ?_
  clear hK K
  try refine vthen_n ?_
  have hlt : m.natAbs % 10 < 10 := Nat.mod_lt _ (by decide)
  apply cutl
  ·intro tail
   repeat refine VW.seq ?_
   refine VW.cond rfl (fun hc => ?_) (fun hc => ?_)
   ·have h5 : m.tmod 10 < 0 := of_decide_eq_true hc
    have hneg : m < 0 := by
     rcases Int.lt_or_le m 0 with h | h
     ·exact h
     ·rw [tm10_pos h] at h5; omega
    repeat refine VW.seq ?_
    refine VW.regl hT fun K hK => ?_
    simp only [wq, simprocAttr]
    refine hK _ ?_
    clear hK K
    try refine vthen_n ?_
    refine VW.weak (weak_norm [(0, none), (3, none), (4, none), (5, none)] _) ?_
    simp only [wn, wq, simprocAttr]
    rw [tm10_neg hneg, wrap64 (by omega) (by omega), show (0 : Int) - -((m.natAbs % 10 : Nat) : Int) = ((m.natAbs % 10 : Nat) : Int) by omega]
    exact tail.h
   ·have h5 : ¬ m.tmod 10 < 0 := of_decide_eq_false hc
    have e : m.tmod 10 = ((m.natAbs % 10 : Nat) : Int) := by
     rcases Int.lt_or_le m 0 with h | h
     ·rw [tm10_neg h] at h5 ⊢; omega
     ·exact tm10_pos h
    refine VW.skip (vthen_n ?_)
    refine VW.weak (weak_norm [(0, none), (3, none), (4, none), (5, none)] _) ?_
    simp only [wn, wq, simprocAttr]
    rw [e]
    exact tail.h
  repeat refine VW.seq ?_
  refine VW.regl hT fun K hK => ?_
  simp only [wq, simprocAttr]
  refine vcall_of (figure_vc _ hlt) ?_
  simp only [wq, simprocAttr]
  refine vhook_of (does_tostr (e := 5) (e' := 5) (ys := [48 + ((m.natAbs % 10 : Nat) : Int)]) rfl (by kernel_rfl) (by kernel_rfl) (by kernel_rfl) rfl rfl) ?_
  simp only [wq, simprocAttr]
  rw [bstr_one, bs_app]
  refine ⟨decide_eq_true (by rw [bs_size, bs_size]; show (1 : Nat) + _ ≤ _; omega), ?_⟩
  refine hK _ ?_
  clear hK K
  try refine vthen_n ?_
  repeat refine VW.seq ?_
  refine VW.regl hT fun K hK => ?_
  simp only [wq, simprocAttr]
  refine ⟨decide_eq_false id, ?_⟩
  refine hK _ ?_
  clear hK K
  try refine vthen_n ?_
  have hb : -9223372036854775808 ≤ m.tdiv 10 ∧ m.tdiv 10 ≤ 9223372036854775807 := by
   have := td10_abs m
   omega
  refine ⟨(m.tdiv 10, UInt8.ofNat (48 + m.natAbs % 10) :: l), ⟨?_, ?_⟩, ?_, ?_⟩
  ·exact hb
  ·show dd (m.tdiv 10).natAbs ++ (UInt8.ofNat (48 + m.natAbs % 10) :: l) = dd n.natAbs
   rw [td10_abs, ← hd, dd_step (u := m.natAbs) (by omega), List.append_assoc]
   rfl
  ·simp only [wn, wq, simprocAttr]
   rw [wrap64 hb.1 hb.2]
  ·show (m.tdiv 10).natAbs < m.natAbs
   rw [td10_abs]
   omega
 ·have hm0 : m = 0 := by
   have := hc
   simpa using this
  subst hm0
  have hd : l = dd n.natAbs := hd
  subst hd
  refine VW.exit ?_
  show vthen _ _ _ .normal _
  refine vthen_n ?_
  repeat refine VW.seq ?_
  refine VW.regl hT fun K hK => ?_
  simp only [wq, simprocAttr]
  refine hK _ ?_
  clear hK K
  try refine vthen_n ?_
  repeat refine VW.seq ?_
  refine VW.cond rfl (fun hc => ?_) (fun hc => ?_)
  ·have hneg : n < 0 := of_decide_eq_true hc
   repeat refine VW.seq ?_
   refine VW.regl hT fun K hK => ?_
   simp only [wq, simprocAttr]
   refine ⟨decide_eq_true (by rw [bs_size]; show (1 : Nat) + _ ≤ _; omega), ?_⟩
   refine hK _ ?_
   clear hK K
   try refine vthen_n ?_
   refine VW.ret ⟨.inl rfl, _, rfl, ?_⟩
   rw [itoa_dd hn, if_pos hneg, ← bs_app]
   rfl
  have hneg : ¬ n < 0 := of_decide_eq_false hc
  refine VW.skip (vthen_n ?_)
  repeat refine VW.seq ?_
  refine VW.regl hT fun K hK => ?_
  simp only [wq, simprocAttr]
  refine hK _ ?_
  clear hK K
  try refine vthen_n ?_
  refine VW.ret ⟨.inl rfl, _, rfl, ?_⟩
  rw [itoa_dd hn, if_neg hneg]
  rfl
end Go.Proofs.YtoeblmcibheldaaDoor.V.W
end
section
namespace Go.Proofs.YtoeblmcibheldaaDoor.V
open Go Go.RowKit
/-- what is listed, as a number -/
def arr (n m : Nat) : Array Bool := Array.ofFn (n := n) fun i => m.testBit i
theorem arr_size (n m : Nat) : (arr n m).size = n := by simp [arr]
theorem arr_get (n m j : Nat) : (arr n m).getD j false = (decide (j < n) && m.testBit j) := by
 by_cases h : j < n
 ·simp [arr, Array.getD, h]
 ·simp [arr, Array.getD, h]
theorem arr_el {n m j : Nat} (h : j < (arr n m).size) : (arr n m)[j] = m.testBit j := by simp [arr]
theorem arr_set {n m i : Nat} (hi : i < n) : (arr n m).setIfInBounds i true = arr n (m ||| 2 ^ i) := by
 apply Array.ext
 ·rw [Array.size_setIfInBounds, arr_size, arr_size]
 ·intro j h1 h2
  have h3 : j < (arr n m).size := by rw [arr_size]; rwa [arr_size] at h2
  rw [Array.getElem_setIfInBounds h3, arr_el h2, Nat.testBit_or]
  by_cases e : i = j
  ·subst e; simp
  ·rw [arr_size] at h2
   rw [if_neg e, arr_el (by rw [arr_size]; exact h2), Nat.testBit_two_pow_of_ne e, Bool.or_false]
def chk (ops : Array Oper) (m : Nat) (ps : List (Nat × Nat)) : Bool := (Region.ready .any ops (arr ops.size m) == ps.map (·.1)) && ps.all fun p => (m ||| 2 ^ p.1 == p.2)
def takeChk (ops : Array Oper) (m i m' : Nat) : Bool := Region.noSelect ops && (Region.free .any ops (arr ops.size m) i && ((Region.ready .any ops (arr ops.size m)).contains i && (m ||| 2 ^ i == m')))
def twoChk (ops : Array Oper) (m i j m' : Nat) : Bool := (Region.ready .any ops (arr ops.size m) == [i]) && ((Region.ready .any ops (arr ops.size (m ||| 2 ^ i)) == [j]) && (m ||| 2 ^ i ||| 2 ^ j == m'))
def doneChk (ops : Array Oper) (m : Nat) : Bool := Region.ready .any ops (arr ops.size m) == []
section
variable {P : Program} {T : List (Nat × TI)} {ops : Array Oper}
/-- one operation -/
def vone (P : Program) (T : List (Nat × TI)) (ops : Array Oper) (i : Nat) (st0 : St) (K : St → Prop) : Prop :=
 match ops[i]? with
 | some o => @vguard st0 ops o ⟨fun run st => match run with
  | true => @vread P T st o ⟨fun st1 pv => nonroot st1 o.dst = true ∧ K (setD st1 o.dst pv)⟩
  | false => nonroot st o.dst = true ∧ K (setD st o.dst skipPV)⟩
 | none => True
def vpure (ops : Array Oper) (i : Nat) (st : St) (K : St → Prop) : Prop :=
 match ops[i]? with
 | some o => @vfloat (pureOp st o) ⟨fun pv => nonroot st o.dst = true ∧ K (setD st o.dst pv)⟩
 | none => True
def popped : Option Out → Bool
 | some _ => true
 | none => false
def isFld (st : St) (o : Oper) : Bool := match o.guard with
 | some _ => false
 | none => match o.op with
  | .fieldAddr _ x _ => match ref st x with
   | .adr _ _ => true
   | _ => false
  | _ => false
def vfld (P : Program) (T : List (Nat × TI)) (ops : Array Oper) (i : Nat) (st : St) (K : St → Prop) : Prop :=
 match ops[i]? with
 | some o => isFld st o = true ∧ popped (pop T st st o) = true ∧ @vread P T st o ⟨fun st1 pv => nonroot st1 o.dst = true ∧ K (setD st1 o.dst pv)⟩
 | none => True
def vall (P : Program) (T : List (Nat × TI)) (ops : Array Oper) (W : Nat → St → Prop) (st : St) : List (Nat × Nat) → Prop
 | [] => True
 | p :: r => vone P T ops p.1 st (W p.2) ∧ vall P T ops W st r
/-- two operations, one behind the other, the first without effect -/
def Does2 (P : Program) (o1 o2 : Oper) (st st' : St) : Prop := ∀ (L : Lay) (a : Act) (w : World) (next : Act → World → Prop) (Q : Exit → Act → World → Prop), Rel L st a w Free → (∀ L' a' w', Stp L L' w w' → Rel L' st' a' w' Free → next a' w') → ∃ v, (execOp a.eval o1).run P w = .ok (.value v) w ∧ o2.wp P (a.put o1.dst v) w next Q
/-- how one goes on in a region in any order -/
structure Ruled (P : Program) (T : List (Nat × TI)) (ops : Array Oper) (K : St → Prop) (W : Nat → St → Prop) : Prop where
 done : ∀ (m : Nat) (st : St), doneChk ops m = true → K st → W m st
 all : ∀ (m : Nat) (ps : List (Nat × Nat)) (st : St), chk ops m ps = true → ps ≠ [] → vall P T ops W st ps → W m st
 take : ∀ (m i m' : Nat) (st : St), takeChk ops m i m' = true → vpure ops i st (W m') → W m st
 takeF : ∀ (m i m' : Nat) (st : St), takeChk ops m i m' = true → vfld P T ops i st (W m') → W m st
 two : ∀ (m i j m' : Nat) (st st' : St) (o1 o2 : Oper), ops[i]? = some o1 → ops[j]? = some o2 → o1.guard = none → o2.guard = none → twoChk ops m i j m' = true → Does2 P o1 o2 st st' → W m' st' → W m st
theorem fld_pure (hT : TabOk P T) {L : Lay} {st : St} {a : Act} {w : World} (h : Rel L st a w Free) {o : Oper} {t n : Nat} {x : Operand} {g : Nat} {p : Path} {out : Out} (ho : o.op = .fieldAddr t x n) (hx : ref st x = .adr g p) (hg0 : o.guard = none) (hp : pop T st st o = some out) : ∃ v, Yields P ops o v a ∧ ORep L st w out.pv v ∧ out.pv.isRoot = false ∧ out.st = st := by
 have hw : Region.wanted o (yielded ops a.tmps) = true := by unfold Region.wanted; rw [hg0]
 unfold pop at hp
 rw [ho] at hp
 simp only at hp
 have hv := h.opnd x
 split at hp
 ·rename_i i hi
  have hTt := hT t i hi
  rw [hx] at hp hv
  simp only at hp
  split at hp
  ·rename_i s f y hl
   split at hp
   ·rename_i hc
    obtain ⟨hs, hn, hag⟩ := hc
    obtain rfl := (Option.some.inj hp)
    obtain ⟨s1, cs1, A, q1, q2⟩ := hv
    obtain rfl := q1.shape hl
    subst hs
    obtain ⟨fs, u1, u2, u3⟩ := hTt.str hag
    obtain ⟨fd, agg1, s1, of, fi, v1, v2, v3, v4, v5, v6, v7, v8, v9, v10⟩ := (u3 n hn).ex
    obtain ⟨k1, ⟨f2, x2, k2⟩, k3, k4, k5⟩ := field_at n i.nf v3 f y
    obtain ⟨_, _, B1, _, m4⟩ := h.place q1 hl
    refine ⟨.pointer (some (A.add of)), .inl ⟨hw, fun w' => ?_⟩, ⟨s1, (cs1.drop of).take s1.size, A.add of, q1.app hl k1 k2 (k4 w cs1 (some A) m4.len), rfl⟩, rfl, rfl⟩
    have hne : ¬ s1.size = 0 := by omega
    simp [execOp, ho, Instr.fieldAt, run_underlying u1, v1, Instr.sureAddr, q2, fieldPlace, run_size v5, v6, hne, v4]
   ·cases hp
  ·cases hp
 ·cases hp
theorem vall_mem {W : Nat → St → Prop} {st : St} : ∀ {ps : List (Nat × Nat)} {p : Nat × Nat}, vall P T ops W st ps → p ∈ ps → vone P T ops p.1 st (W p.2)
 | q :: r, p, h, hp => by
  rcases List.mem_cons.1 hp with rfl | hp
  ·exact h.1
  ·exact vall_mem h.2 hp
theorem cnt_set {n m i : Nat} (hi : i < n) (hb : (arr n m).getD i false = false) : cntU n (fun j => !(arr n (m ||| 2 ^ i)).getD j false) + 1 = cntU n (fun j => !(arr n m).getD j false) := by
 refine cntU_flip n (i := i) hi (by simp only [hb]; rfl) ?_ fun j hj => ?_
 ·show (!(arr n (m ||| 2 ^ i)).getD i false) = false
  rw [arr_get, Nat.testBit_or, Nat.testBit_two_pow_self, decide_eq_true hi]
  simp
 ·show (!(arr n (m ||| 2 ^ i)).getD j false) = (!(arr n m).getD j false)
  rw [arr_get, arr_get, Nat.testBit_or, Nat.testBit_two_pow_of_ne (fun e => hj e.symm), Bool.or_false]
theorem cnt_zero {n m : Nat} (h : cntU n (fun j => !(arr n m).getD j false) = 0) {i : Nat} (hi : i < n) : (arr n m).getD i false = true := by
 have := cntU_zero n h i hi
 simpa using this
theorem VW.any (hT : TabOk P T) (hm : P.follows .mixedOrders = true) {id : Nat} {st : St} {Q : Exit → St → Prop} (h : ∀ (K : St → Prop), (∀ s, Q .normal s → K s) → ∀ W : Nat → St → Prop, Ruled P T ops K W → W 0 st) : VW P (.region id ops true) st Q := by
 intro L a w hr
 refine wp_mono (Q := fun e a' w' => match e with | .normal => ∃ L' st', Stp L L' w w' ∧ Rel L' st' a' w' Free ∧ Q .normal st' | _ => False) ?_ (fun e a' w' hq => ?_)
 case refine_2 =>
  cases e with
  | normal => exact hq
  | _ => exact hq.elim
 refine wp_region_any hm ?_
 have hx : Ext w { w with drawn := w.drawn + 1 } := Ext.drew w
 have hr1 := hr.grow hx
 have hst1 := Stp.ext (L := L) hx
 generalize ({ w with drawn := w.drawn + 1 } : World) = w1 at hr1 hst1 ⊢
 have key := h (Q .normal) (fun _ h => h) (fun m st => ∀ (n : Nat), cntU ops.size (fun j => !(arr ops.size m).getD j false) = n → ∀ (L' : Lay) (a : Act) (w' : World), Stp L L' w w' → Rel L' st a w' Free → wpAny P .any ops (fun e a' w' => match e with | .normal => ∃ L' st', Stp L L' w w' ∧ Rel L' st' a' w' Free ∧ Q .normal st' | _ => False) n (arr ops.size m) a w') ?_
 ·have e0 : arr ops.size 0 = Array.replicate ops.size false := by
   apply Array.ext
   ·simp [arr]
   ·intro j h1 h2
    simp [arr]
  have c0 : cntU ops.size (fun j => !(arr ops.size 0).getD j false) = ops.size := by
   have e1 : (fun j => !(arr ops.size 0).getD j false) = fun _ => true := by
    funext j
    rw [arr_get, Nat.zero_testBit, Bool.and_false]
    rfl
   rw [e1]
   exact cntU_all ops.size
  have := key _ c0 L a w1 hst1 hr1
  rwa [e0] at this
 ·refine ⟨fun m st hd hk n hn L' a w' hs hr => ?_, fun m ps st hc hne hv n hn L' a w' hs hr => ?_, fun m i m' st hc hv n hn L' a w' hs hr => ?_, fun m i m' st hc hv n hn L' a w' hs hr => ?_, fun m i j m' st st' o1 o2 hi hj gi gj hc hd hv n hn L' a w' hs hr => ?_⟩
  ·have hd : Region.ready .any ops (arr ops.size m) = [] := by simpa [doneChk] using hd
   exact wpAny_done hd ⟨L', st, hs, hr, hk⟩ n
  ·simp only [chk, Bool.and_eq_true, beq_iff_eq] at hc
   obtain ⟨hrd, hms⟩ := hc
   have hin : ∀ i ∈ Region.ready .any ops (arr ops.size m), ∃ p ∈ ps, p.1 = i ∧ i < ops.size ∧ (arr ops.size m).getD i false = false ∧ ∃ o, ops[i]? = some o := fun i hi => by
    obtain ⟨o, h1, h2, _⟩ := (ready_iff (arr_size _ _)).1 hi
    rw [hrd] at hi
    obtain ⟨p, hp, rfl⟩ := List.mem_map.1 hi
    exact ⟨p, hp, rfl, (Array.getElem?_eq_some_iff.1 h1).1, h2, o, h1⟩
   have hnil : Region.ready .any ops (arr ops.size m) ≠ [] := by
    rw [hrd]
    intro h0
    exact hne (List.map_eq_nil_iff.1 h0)
   cases n with
   | zero =>
    obtain ⟨i, hi⟩ := List.exists_mem_of_ne_nil _ hnil
    obtain ⟨p, _, _, h1, h2, _⟩ := hin i hi
    rw [cnt_zero hn h1] at h2
    cases h2
   | succ n =>
    refine ⟨fun h0 => absurd h0 hnil, fun i hi => ?_⟩
    obtain ⟨p, hp, rfl, h1, h2, o, ho⟩ := hin i hi
    have hm' : m ||| 2 ^ p.1 = p.2 := by
     have := List.all_eq_true.1 hms p hp
     simpa using this
    have hcn := cnt_set h1 h2
    rw [hm'] at hcn
    have hv1 := vall_mem hv hp
    unfold vone at hv1
    rw [ho] at hv1
    have hg := vguard_ok hr hv1
    rw [arr_set h1, hm']
    unfold wpOp
    rw [ho]
    simp only
    cases hw : Region.wanted o (yielded ops a.tmps) with
    | true =>
     rw [hw] at hg
     simp only at hg
     rw [if_pos rfl]
     left
     refine vread_ok hT hg (fun st1 pv hK => hK.1) L' a w' _ _ hr fun st' L2 a2 w2 ⟨st1, pv, hK, e⟩ hs' hr' => ?_
     subst e
     exact hK.2 n (by omega) L2 a2 w2 (hs.trans hs') hr'
    | false =>
     rw [hw] at hg
     simp only at hg
     rw [if_neg (by simp)]
     obtain ⟨L2, s1, s2⟩ := skip_ok hr hg.1
     exact hg.2 n (by omega) L2 _ w' (hs.trans s1) s2
  ·simp only [takeChk, Bool.and_eq_true, beq_iff_eq] at hc
   obtain ⟨c1, c2, c3, c4⟩ := hc
   obtain ⟨o, ho, h2, _⟩ := (ready_iff (arr_size _ _)).1 (show i ∈ Region.ready .any ops (arr ops.size m) by simpa using c3)
   have h1 : i < ops.size := (Array.getElem?_eq_some_iff.1 ho).1
   have hcn := cnt_set h1 h2
   rw [c4] at hcn
   unfold vpure at hv
   rw [ho] at hv
   simp only [vfloat] at hv
   split at hv
   ·rename_i pv hp
    obtain ⟨hnr, hv⟩ := hv
    obtain ⟨v, y1, y2, y3⟩ := pureOp_ok (P := P) (ops := ops) hr hp
    have hr' : Rel L' (setD st o.dst pv) (a.put o.dst v) w' Free := by
     cases hd : o.dst with
     | none => exact hr
     | some d => exact hr.setO (nonroot_spec hnr d hd) y3 y2
    cases n with
    | zero =>
     rw [cnt_zero hn h1] at h2
     cases h2
    | succ n =>
     refine wpAny_take ho c1 c2 c3 (fun c a w hq => hq.elim) y1 ?_
     rw [arr_set h1, c4]
     exact hv n (by omega) L' _ w' hs hr'
   ·exact hv.elim
  ·simp only [takeChk, Bool.and_eq_true, beq_iff_eq] at hc
   obtain ⟨c1, c2, c3, c4⟩ := hc
   obtain ⟨o, ho, h2, _⟩ := (ready_iff (arr_size _ _)).1 (show i ∈ Region.ready .any ops (arr ops.size m) by simpa using c3)
   have h1 : i < ops.size := (Array.getElem?_eq_some_iff.1 ho).1
   have hcn := cnt_set h1 h2
   rw [c4] at hcn
   unfold vfld at hv
   rw [ho] at hv
   obtain ⟨hf, hpp, hv⟩ := hv
   simp only [isFld] at hf
   split at hf
   ·cases hf
   rename_i hg0
   split at hf
   ·rename_i t x k hop
    split at hf
    ·rename_i g p hx
     unfold vread at hv
     rw [hop] at hv
     simp only at hv
     have hnil : nilTest T st o = none := by unfold nilTest; rw [hop]
     rw [hnil] at hv
     simp only at hv
     split at hv
     ·rename_i out hp
      obtain ⟨_, hnr, hv⟩ := hv
      obtain ⟨v, y1, y2, y3, y4⟩ := fld_pure (P := P) (ops := ops) hT hr hop hx hg0 hp
      rw [y4] at hnr hv
      have hr' : Rel L' (setD st o.dst out.pv) (a.put o.dst v) w' Free := by
       cases hd : o.dst with
       | none => exact hr
       | some d => exact hr.setO (nonroot_spec hnr d hd) y3 y2
      cases n with
      | zero =>
       rw [cnt_zero hn h1] at h2
       cases h2
      | succ n =>
       refine wpAny_take ho c1 c2 c3 (fun c a w hq => hq.elim) y1 ?_
       rw [arr_set h1, c4]
       exact hv n (by omega) L' _ w' hs hr'
     ·rename_i hp; rw [hp] at hpp; cases hpp
    ·cases hf
   ·cases hf
  ·simp only [twoChk, Bool.and_eq_true, beq_iff_eq] at hc
   obtain ⟨c1, c2, c3⟩ := hc
   obtain ⟨_, _, b1, _⟩ := (ready_iff (arr_size _ _)).1 (show i ∈ Region.ready .any ops (arr ops.size m) by rw [c1]; exact List.mem_singleton.2 rfl)
   obtain ⟨_, _, b2, _⟩ := (ready_iff (arr_size _ _)).1 (show j ∈ Region.ready .any ops (arr ops.size (m ||| 2 ^ i)) by rw [c2]; exact List.mem_singleton.2 rfl)
   have h1 : i < ops.size := (Array.getElem?_eq_some_iff.1 hi).1
   have h2 : j < ops.size := (Array.getElem?_eq_some_iff.1 hj).1
   have q1 := cnt_set h1 b1
   have q2 := cnt_set h2 b2
   rw [c3] at q2
   obtain ⟨n, rfl⟩ : ∃ k, n = k + 2 := ⟨n - 2, by omega⟩
   refine ⟨fun h0 => (by rw [c1] at h0; cases h0), fun x hx => ?_⟩
   rw [c1] at hx
   obtain rfl := List.mem_singleton.1 hx
   have hw1 : Region.wanted o1 (yielded ops a.tmps) = true := by unfold Region.wanted; rw [gi]
   obtain ⟨v, x1, x2⟩ := hd L' a w' _ _ hr (fun L2 a2 w2 k1 k2 => hv n (by omega) L2 a2 w2 (hs.trans k1) k2)
   rw [arr_set h1]
   unfold wpOp
   rw [hi]
   simp only
   rw [hw1, if_pos rfl]
   left
   unfold Oper.wp
   rw [x1, Oper.upon_value]
   refine ⟨fun h0 => (by rw [c2] at h0; cases h0), fun x hx => ?_⟩
   rw [c2] at hx
   obtain rfl := List.mem_singleton.1 hx
   have hw2 : Region.wanted o2 (yielded ops (a.put o1.dst v).tmps) = true := by unfold Region.wanted; rw [gj]
   rw [arr_set h2, c3]
   unfold wpOp
   rw [hj]
   simp only
   rw [hw2, if_pos rfl]
   left
   exact x2
end
theorem wy : type_of% (And.intro (And.intro @vone.eq_1 (And.intro @vall.eq_1 @vall.eq_2)) (And.intro @vpure.eq_1 (And.intro @vfld.eq_1 (And.intro @isFld.eq_1 (And.intro @popped.eq_1 @popped.eq_2))))) := And.intro (And.intro @vone.eq_1 (And.intro @vall.eq_1 @vall.eq_2)) (And.intro @vpure.eq_1 (And.intro @vfld.eq_1 (And.intro @isFld.eq_1 (And.intro @popped.eq_1 @popped.eq_2))))
end Go.Proofs.YtoeblmcibheldaaDoor.V
end
section
namespace Go.Proofs.YtoeblmcibheldaaDoor.V.W
open Go Go.RowKit
theorem gl_words : (0, fun cs => cs = (#[.string ⟨#[119, 114, 105, 116, 101]⟩, .string ⟨#[114, 101, 97, 100]⟩, .string ⟨#[99, 117, 116]⟩, .string ⟨#[111, 112, 101, 110]⟩] : Array Value)) ∈ gls := .head _
def word (k : Int) : List UInt8 := if k = 1 then [119, 114, 105, 116, 101] else if k = 2 then [114, 101, 97, 100] else if k = 3 then [99, 117, 116] else [111, 112, 101, 110]
def actText (a : Ac) : List UInt8 := word a.1 ++ 32 :: Lib.itoa a.2.1 ++ (if a.1 ≤ 2 then 32 :: Lib.itoa a.2.2.1 else []) ++ (if a.1 = 1 then 32 :: Lib.itoa a.2.2.2 else [])
def fmtAct (a : Ac) : ByteArray × Bool := if actOk a = true then (bs (actText a), true) else (bs [], false)
abbrev rTB (p : ByteArray × Bool) : PV := .root (.tup [false, false]) (.pr .str .bool) (.pr .fz .fz) p
theorem actOk_iff {k n x y : Int} (h : actOk (k, n, x, y) = true) : (0 ≤ n ∧ n ≤ 11) ∧ (0 ≤ x ∧ x ≤ 65535) ∧ (0 ≤ y ∧ y ≤ 65535) ∧ (k = 1 ∨ k = 2 ∨ k = 3 ∨ k = 4) := by
 simp only [actOk, Bool.and_eq_true] at h
 obtain ⟨h1, h2⟩ := h
 refine ⟨by have := inB_iff.1 h1; omega, ?_⟩
 split at h2
 ·simp only [Bool.and_eq_true] at h2
  have a := inB_iff.1 h2.1
  have b := inB_iff.1 h2.2
  omega
 split at h2
 ·simp only [Bool.and_eq_true, beq_iff_eq] at h2
  have a := inB_iff.1 h2.1
  omega
 split at h2
 ·simp only [Bool.and_eq_true, beq_iff_eq] at h2
  omega
 ·cases h2
theorem bs32 : (⟨#[32]⟩ : ByteArray) = bs [32] := rfl
theorem word_len (k : Int) : (word k).length ≤ 5 := by
 unfold word
 split
 ·decide
 split
 ·decide
 split <;> decide
set_option maxRecDepth 20000 in
set_option maxHeartbeats 2000000 in
theorem fmtAct_vc (a : Ac) : VC Tryd.prog 9 [.v true sAct a] (· = rTB (fmtAct a)) := by
 refine VC.of_body hT Tryd.func9 rfl (by kernel_rfl) [(.tmp 2, false, .str), (.tmp 3, false, .bool)] (by kernel_rfl) ?_
 obtain ⟨kd, nd, x, y⟩ := a
 show VW _ _ ([.v true sAct (kd, nd, x, y), D, D, D, D, D, D, D, D, D, D, D, D, D, D, D, D, D, D, D, D, D, D, D, D, D, D, D, D, D, D, D, D, D, D, D, D, D, D, D, D, D]) _
 repeat refine VW.seq ?_
 refine VW.regl hT fun K hK => ?_
 simp only [wq, simprocAttr]
 refine hK _ ?_
 clear hK K
 try refine vthen_n ?_
 repeat refine VW.seq ?_
 refine VW.regl hT fun K hK => ?_
 simp only [wq, simprocAttr]
 refine vcall_of (actOk_vc _) ?_
 simp only [wq, simprocAttr]
 refine hK _ ?_
 clear hK K
 try refine vthen_n ?_
 repeat refine VW.seq ?_
 refine VW.cond rfl (fun hc => ?_) (fun hc => ?_)
 ·repeat refine VW.seq ?_
  refine VW.regl hT fun K hK => ?_
  simp only [wq, simprocAttr]
  refine hK _ ?_
  clear hK K
  try refine vthen_n ?_
  refine VW.ret ⟨.inl rfl, _, rfl, ?_⟩
  have hc : actOk (kd, nd, x, y) = false := (Bool.not_eq_true' _).mp hc
  rw [fmtAct, if_neg (by rw [hc]; decide)]
  rfl
 have hok : actOk (kd, nd, x, y) = true := (Bool.not_eq_false' _).mp hc
 refine VW.skip (vthen_n ?_)
 obtain ⟨hn, hx, hy, hk⟩ := actOk_iff hok
 have hw := word_len kd
 have hw0 : IntKind.i64.wrap (kd - 1) = kd - 1 := wrap64 (by omega) (by omega)
 have hi : 0 ≤ kd - 1 ∧ kd - 1 < ((4 : Nat) : Int) := by omega
 have hg : (#[.string ⟨#[119, 114, 105, 116, 101]⟩, .string ⟨#[114, 101, 97, 100]⟩, .string ⟨#[99, 117, 116]⟩, .string ⟨#[111, 112, 101, 110]⟩] : Array Value)[(kd - 1).toNat]? = some (.string (bs (word kd))) := by
  rcases hk with rfl | rfl | rfl | rfl <;> rfl
 have li := itoa_len (n := nd) (by omega) (by omega)
 rw [bs_size] at li
 have e5 : decide ((bs (word kd)).size + (⟨#[32]⟩ : ByteArray).size ≤ 9223372036854775807) = true := decide_eq_true (by rw [bs_size]; show _ + 1 ≤ _; omega)
 have e9 : decide ((bs (word kd) ++ (⟨#[32]⟩ : ByteArray)).size + (bs (Lib.itoa nd)).size ≤ 9223372036854775807) = true := decide_eq_true (by rw [show (⟨#[32]⟩ : ByteArray) = bs [32] from rfl, bs_app, bs_size, bs_size, List.length_append]; show _ + 1 + _ ≤ _; omega)
 repeat refine VW.seq ?_
 refine VW.any hT hm fun K hK W hW => ?_
 apply cutl; intro tK
 apply cutl; intro t2047
 apply cutl; intro t1023
 apply cutl; intro t511
 apply cutl; intro t479
 apply cutl; intro t255
 apply cutl; intro t463
 apply cutl; intro t223
 apply cutl; intro t127
 apply cutl; intro t455
 apply cutl; intro t207
 apply cutl; intro t95
 apply cutl; intro t451
 apply cutl; intro t199
 apply cutl; intro t79
 apply cutl; intro t449
 apply cutl; intro t195
 apply cutl; intro t71
 apply cutl; intro t193
 apply cutl; intro t67
 ·refine hW.takeF 0 0 1 _ (by kernel_rfl) ?_
  simp only [wy, wq, simprocAttr]
  refine hW.takeF 1 6 65 _ (by kernel_rfl) ?_
  simp only [wy, wq, simprocAttr]
  refine hW.all 65 [(1, 67), (7, 193)] _ (by kernel_rfl) (by simp) ?_
  simp only [wy, wq, simprocAttr]
  exact ⟨t67.h, t193.h⟩
 ·refine hW.all 67 [(2, 71), (7, 195)] _ (by kernel_rfl) (by simp) ?_
  simp only [wy, wq, simprocAttr]
  exact ⟨t71.h, t195.h⟩
 ·refine hW.all 193 [(1, 195), (8, 449)] _ (by kernel_rfl) (by simp) ?_
  simp only [wy, wq, simprocAttr]
  refine ⟨?_, ?_⟩
  ·exact t195.h
  ·refine vcall_of (formatInt_vc nd (by omega) (by omega)) ?_
   simp only [wq, simprocAttr]
   exact t449.h
 ·refine hW.all 71 [(3, 79), (7, 199)] _ (by kernel_rfl) (by simp) ?_
  simp only [wy, wq, simprocAttr]
  refine ⟨?_, ?_⟩
  ·rw [hw0]
   refine vhook_of (does_gidx (e := 9) rfl (by kernel_rfl) (by kernel_rfl) gl_words rfl hi hg rfl) ?_
   simp only [wq, simprocAttr]
   exact t79.h
  ·exact t199.h
 ·refine hW.all 195 [(2, 199), (8, 451)] _ (by kernel_rfl) (by simp) ?_
  simp only [wy, wq, simprocAttr]
  refine ⟨?_, ?_⟩
  ·exact t199.h
  ·refine vcall_of (formatInt_vc nd (by omega) (by omega)) ?_
   simp only [wq, simprocAttr]
   exact t451.h
 ·refine hW.all 449 [(1, 451)] _ (by kernel_rfl) (by simp) ?_
  simp only [wy, wq, simprocAttr]
  exact t451.h
 ·refine hW.all 79 [(4, 95), (7, 207)] _ (by kernel_rfl) (by simp) ?_
  simp only [wy, wq, simprocAttr]
  exact ⟨t95.h, t207.h⟩
 ·refine hW.all 199 [(3, 207), (8, 455)] _ (by kernel_rfl) (by simp) ?_
  simp only [wy, wq, simprocAttr]
  refine ⟨?_, ?_⟩
  ·rw [hw0]
   refine vhook_of (does_gidx (e := 9) rfl (by kernel_rfl) (by kernel_rfl) gl_words rfl hi hg rfl) ?_
   simp only [wq, simprocAttr]
   exact t207.h
  ·refine vcall_of (formatInt_vc nd (by omega) (by omega)) ?_
   simp only [wq, simprocAttr]
   exact t455.h
 ·refine hW.all 451 [(2, 455)] _ (by kernel_rfl) (by simp) ?_
  simp only [wy, wq, simprocAttr]
  exact t455.h
 ·refine hW.all 95 [(5, 127), (7, 223)] _ (by kernel_rfl) (by simp) ?_
  simp only [wy, wq, simprocAttr]
  exact ⟨⟨e5, t127.h⟩, t223.h⟩
 ·refine hW.all 207 [(4, 223), (8, 463)] _ (by kernel_rfl) (by simp) ?_
  simp only [wy, wq, simprocAttr]
  refine ⟨?_, ?_⟩
  ·exact t223.h
  ·refine vcall_of (formatInt_vc nd (by omega) (by omega)) ?_
   simp only [wq, simprocAttr]
   exact t463.h
 ·refine hW.all 455 [(3, 463)] _ (by kernel_rfl) (by simp) ?_
  simp only [wy, wq, simprocAttr]
  skip
  rw [hw0]
  refine vhook_of (does_gidx (e := 9) rfl (by kernel_rfl) (by kernel_rfl) gl_words rfl hi hg rfl) ?_
  simp only [wq, simprocAttr]
  exact t463.h
 ·refine hW.all 127 [(7, 255)] _ (by kernel_rfl) (by simp) ?_
  simp only [wy, wq, simprocAttr]
  exact t255.h
 ·refine hW.all 223 [(5, 255), (8, 479)] _ (by kernel_rfl) (by simp) ?_
  simp only [wy, wq, simprocAttr]
  refine ⟨?_, ?_⟩
  ·refine ⟨e5, ?_⟩
   exact t255.h
  ·refine vcall_of (formatInt_vc nd (by omega) (by omega)) ?_
   simp only [wq, simprocAttr]
   exact t479.h
 ·refine hW.all 463 [(4, 479)] _ (by kernel_rfl) (by simp) ?_
  simp only [wy, wq, simprocAttr]
  exact t479.h
 ·refine hW.all 255 [(8, 511)] _ (by kernel_rfl) (by simp) ?_
  simp only [wy, wq, simprocAttr]
  skip
  refine vcall_of (formatInt_vc nd (by omega) (by omega)) ?_
  simp only [wq, simprocAttr]
  exact t511.h
 ·refine hW.all 479 [(5, 511)] _ (by kernel_rfl) (by simp) ?_
  simp only [wy, wq, simprocAttr]
  exact ⟨e5, t511.h⟩
 ·refine hW.all 511 [(9, 1023)] _ (by kernel_rfl) (by simp) ?_
  simp only [wy, wq, simprocAttr]
  exact ⟨e9, t1023.h⟩
 ·refine hW.all 1023 [(10, 2047)] _ (by kernel_rfl) (by simp) ?_
  simp only [wy, wq, simprocAttr]
  exact t2047.h
 ·refine hW.done 2047 _ (by kernel_rfl) ?_
  exact tK.h
 refine hK _ ?_
 clear hW W hK K
 refine vthen_n ?_
 refine VW.weak (weak_norm [(1, none), (4, none)] _) ?_
 simp only [wn, wq, simprocAttr]
 rw [show bs (word kd) ++ (⟨#[32]⟩ : ByteArray) ++ bs (Lib.itoa nd) = bs (word kd ++ 32 :: Lib.itoa nd) from by rw [show (⟨#[32]⟩ : ByteArray) = bs [32] from rfl, bs_app, bs_app, List.append_assoc]; rfl]
 have hfin : fmtAct (kd, nd, x, y) = (bs (actText (kd, nd, x, y)), true) := if_pos hok
 rw [hfin]
 clear hfin hok hc hw0 hi hg e5 e9
 unfold actText
 have lx := itoa_len (n := x) (by omega) (by omega)
 have ly := itoa_len (n := y) (by omega) (by omega)
 rw [bs_size] at lx ly
 rcases hk with rfl | rfl | rfl | rfl
 ·repeat refine VW.seq ?_
  refine VW.regl hT fun K hK => ?_
  simp only [wq, simprocAttr]
  refine hK _ ?_
  clear hK K
  try refine vthen_n ?_
  repeat refine VW.seq ?_
  refine VW.cond rfl (fun hc => ?_) (fun hc => by cases hc)
  repeat refine VW.seq ?_
  refine VW.regl hT fun K hK => ?_
  simp only [wq, simprocAttr]
  refine vcall_of (formatInt_vc x (by omega) (by omega)) ?_
  simp only [wq, simprocAttr]
  refine ⟨decide_eq_true (by simp only [bs32, bs_app, bs_size, List.length_append, List.length_cons, List.length_nil]; omega), decide_eq_true (by simp only [bs32, bs_app, bs_size, List.length_append, List.length_cons, List.length_nil]; omega), ?_⟩
  refine hK _ ?_
  clear hK K
  try refine vthen_n ?_
  repeat refine VW.seq ?_
  refine VW.regl hT fun K hK => ?_
  simp only [wq, simprocAttr]
  refine hK _ ?_
  clear hK K
  try refine vthen_n ?_
  repeat refine VW.seq ?_
  refine VW.cond rfl (fun hc => ?_) (fun hc => by cases hc)
  repeat refine VW.seq ?_
  refine VW.regl hT fun K hK => ?_
  simp only [wq, simprocAttr]
  refine vcall_of (formatInt_vc y (by omega) (by omega)) ?_
  simp only [wq, simprocAttr]
  refine ⟨decide_eq_true (by simp only [bs32, bs_app, bs_size, List.length_append, List.length_cons, List.length_nil]; omega), decide_eq_true (by simp only [bs32, bs_app, bs_size, List.length_append, List.length_cons, List.length_nil]; omega), ?_⟩
  refine hK _ ?_
  clear hK K
  try refine vthen_n ?_
  repeat refine VW.seq ?_
  refine VW.regl hT fun K hK => ?_
  simp only [wq, simprocAttr]
  refine hK _ ?_
  clear hK K
  try refine vthen_n ?_
  refine VW.ret ⟨.inl rfl, _, rfl, ?_⟩
  simp [bs32, bs_app]
 ·repeat refine VW.seq ?_
  refine VW.regl hT fun K hK => ?_
  simp only [wq, simprocAttr]
  refine hK _ ?_
  clear hK K
  try refine vthen_n ?_
  repeat refine VW.seq ?_
  refine VW.cond rfl (fun hc => ?_) (fun hc => by cases hc)
  repeat refine VW.seq ?_
  refine VW.regl hT fun K hK => ?_
  simp only [wq, simprocAttr]
  refine vcall_of (formatInt_vc x (by omega) (by omega)) ?_
  simp only [wq, simprocAttr]
  refine ⟨decide_eq_true (by simp only [bs32, bs_app, bs_size, List.length_append, List.length_cons, List.length_nil]; omega), decide_eq_true (by simp only [bs32, bs_app, bs_size, List.length_append, List.length_cons, List.length_nil]; omega), ?_⟩
  refine hK _ ?_
  clear hK K
  try refine vthen_n ?_
  repeat refine VW.seq ?_
  refine VW.regl hT fun K hK => ?_
  simp only [wq, simprocAttr]
  refine hK _ ?_
  clear hK K
  try refine vthen_n ?_
  repeat refine VW.seq ?_
  refine VW.cond rfl (fun hc => by cases hc) (fun hc => ?_)
  refine VW.skip (vthen_n ?_)
  repeat refine VW.seq ?_
  refine VW.regl hT fun K hK => ?_
  simp only [wq, simprocAttr]
  refine hK _ ?_
  clear hK K
  try refine vthen_n ?_
  refine VW.ret ⟨.inl rfl, _, rfl, ?_⟩
  simp [bs32, bs_app]
 ·repeat refine VW.seq ?_
  refine VW.regl hT fun K hK => ?_
  simp only [wq, simprocAttr]
  refine hK _ ?_
  clear hK K
  try refine vthen_n ?_
  repeat refine VW.seq ?_
  refine VW.cond rfl (fun hc => by cases hc) (fun hc => ?_)
  refine VW.skip (vthen_n ?_)
  repeat refine VW.seq ?_
  refine VW.regl hT fun K hK => ?_
  simp only [wq, simprocAttr]
  refine hK _ ?_
  clear hK K
  try refine vthen_n ?_
  repeat refine VW.seq ?_
  refine VW.cond rfl (fun hc => by cases hc) (fun hc => ?_)
  refine VW.skip (vthen_n ?_)
  repeat refine VW.seq ?_
  refine VW.regl hT fun K hK => ?_
  simp only [wq, simprocAttr]
  refine hK _ ?_
  clear hK K
  try refine vthen_n ?_
  refine VW.ret ⟨.inl rfl, _, rfl, ?_⟩
  simp [bs32, bs_app]
 ·repeat refine VW.seq ?_
  refine VW.regl hT fun K hK => ?_
  simp only [wq, simprocAttr]
  refine hK _ ?_
  clear hK K
  try refine vthen_n ?_
  repeat refine VW.seq ?_
  refine VW.cond rfl (fun hc => by cases hc) (fun hc => ?_)
  refine VW.skip (vthen_n ?_)
  repeat refine VW.seq ?_
  refine VW.regl hT fun K hK => ?_
  simp only [wq, simprocAttr]
  refine hK _ ?_
  clear hK K
  try refine vthen_n ?_
  repeat refine VW.seq ?_
  refine VW.cond rfl (fun hc => by cases hc) (fun hc => ?_)
  refine VW.skip (vthen_n ?_)
  repeat refine VW.seq ?_
  refine VW.regl hT fun K hK => ?_
  simp only [wq, simprocAttr]
  refine hK _ ?_
  clear hK K
  try refine vthen_n ?_
  refine VW.ret ⟨.inl rfl, _, rfl, ?_⟩
  simp [bs32, bs_app]
end Go.Proofs.YtoeblmcibheldaaDoor.V.W
end
section
namespace Go.Proofs.YtoeblmcibheldaaDoor.V.W
open Go Go.RowKit
set_option maxRecDepth 20000 in
set_option maxHeartbeats 2000000 in
theorem specFmtAct_vc (a : Ac) : VC Tryd.prog 7 [.v true sAct a] (· = rTB (fmtAct a)) := by
 refine VC.of_body hT Tryd.func7 rfl (by kernel_rfl) [(.tmp 2, false, .str), (.tmp 3, false, .bool)] (by kernel_rfl) ?_
 obtain ⟨kd, nd, x, y⟩ := a
 show VW _ _ ([.v true sAct (kd, nd, x, y), D, D, D, D, D, D, D, D, D, D, D, D, D, D, D, D, D, D, D, D, D, D, D, D, D, D, D, D, D, D, D, D, D, D, D, D]) _
 repeat refine VW.seq ?_
 refine VW.regl hT fun K hK => ?_
 simp only [wq, simprocAttr]
 refine hK _ ?_
 clear hK K
 try refine vthen_n ?_
 repeat refine VW.seq ?_
 refine VW.regl hT fun K hK => ?_
 simp only [wq, simprocAttr]
 refine vcall_of (specActOk_vc _) ?_
 simp only [wq, simprocAttr]
 refine hK _ ?_
 clear hK K
 try refine vthen_n ?_
 repeat refine VW.seq ?_
 refine VW.cond rfl (fun hc => ?_) (fun hc => ?_)
 ·repeat refine VW.seq ?_
  refine VW.regl hT fun K hK => ?_
  simp only [wq, simprocAttr]
  refine hK _ ?_
  clear hK K
  try refine vthen_n ?_
  refine VW.ret ⟨.inl rfl, _, rfl, ?_⟩
  have hc : actOk (kd, nd, x, y) = false := (Bool.not_eq_true' _).mp hc
  rw [fmtAct, if_neg (by rw [hc]; decide)]
  rfl
 have hok : actOk (kd, nd, x, y) = true := (Bool.not_eq_false' _).mp hc
 refine VW.skip (vthen_n ?_)
 obtain ⟨hn, hx, hy, hk⟩ := actOk_iff hok
 have hw := word_len kd
 have hi : decide (0 ≤ kd ∧ kd < 5) = true := decide_eq_true (by omega)
 have li := itoa_len (n := nd) (by omega) (by omega)
 rw [bs_size] at li
 have hg : ([⟨#[]⟩, ⟨#[119, 114, 105, 116, 101]⟩, ⟨#[114, 101, 97, 100]⟩, ⟨#[99, 117, 116]⟩, ⟨#[111, 112, 101, 110]⟩] : List ByteArray).getD kd.toNat ByteArray.empty = bs (word kd) := by
  rcases hk with rfl | rfl | rfl | rfl <;> rfl
 have e5 : decide ((bs (word kd)).size + (⟨#[32]⟩ : ByteArray).size ≤ 9223372036854775807) = true := decide_eq_true (by rw [bs_size]; show _ + 1 ≤ _; omega)
 have e9 : decide ((bs (word kd) ++ (⟨#[32]⟩ : ByteArray)).size + (bs (Lib.itoa nd)).size ≤ 9223372036854775807) = true := decide_eq_true (by rw [show (⟨#[32]⟩ : ByteArray) = bs [32] from rfl, bs_app, bs_size, bs_size, List.length_append]; show _ + 1 + _ ≤ _; omega)
 repeat refine VW.seq ?_
 refine VW.any hT hm fun K hK W hW => ?_
 apply cutl; intro tK
 apply cutl; intro t2047
 apply cutl; intro t1023
 apply cutl; intro t511
 apply cutl; intro t479
 apply cutl; intro t255
 apply cutl; intro t463
 apply cutl; intro t223
 apply cutl; intro t127
 apply cutl; intro t455
 apply cutl; intro t207
 apply cutl; intro t95
 apply cutl; intro t454
 apply cutl; intro t451
 apply cutl; intro t199
 apply cutl; intro t79
 apply cutl; intro t450
 apply cutl; intro t198
 apply cutl; intro t195
 apply cutl; intro t71
 apply cutl; intro t194
 apply cutl; intro t70
 apply cutl; intro t67
 ·refine hW.takeF 0 1 2 _ (by kernel_rfl) ?_
  simp only [wy, wq, simprocAttr]
  refine hW.takeF 2 6 66 _ (by kernel_rfl) ?_
  simp only [wy, wq, simprocAttr]
  refine hW.all 66 [(0, 67), (2, 70), (7, 194)] _ (by kernel_rfl) (by simp) ?_
  simp only [wy, wq, simprocAttr]
  exact ⟨t67.h, t70.h, t194.h⟩
 ·refine hW.all 67 [(2, 71), (7, 195)] _ (by kernel_rfl) (by simp) ?_
  simp only [wy, wq, simprocAttr]
  exact ⟨t71.h, t195.h⟩
 ·refine hW.all 70 [(0, 71), (7, 198)] _ (by kernel_rfl) (by simp) ?_
  simp only [wy, wq, simprocAttr]
  exact ⟨t71.h, t198.h⟩
 ·refine hW.all 194 [(0, 195), (2, 198), (8, 450)] _ (by kernel_rfl) (by simp) ?_
  simp only [wy, wq, simprocAttr]
  refine ⟨?_, ?_, ?_⟩
  ·exact t195.h
  ·exact t198.h
  ·refine vcall_of (specFormatInt_vc nd (by omega) (by omega)) ?_
   simp only [wq, simprocAttr]
   exact t450.h
 ·refine hW.all 71 [(3, 79), (7, 199)] _ (by kernel_rfl) (by simp) ?_
  simp only [wy, wq, simprocAttr]
  exact ⟨⟨hi, t79.h⟩, t199.h⟩
 ·refine hW.all 195 [(2, 199), (8, 451)] _ (by kernel_rfl) (by simp) ?_
  simp only [wy, wq, simprocAttr]
  refine ⟨?_, ?_⟩
  ·exact t199.h
  ·refine vcall_of (specFormatInt_vc nd (by omega) (by omega)) ?_
   simp only [wq, simprocAttr]
   exact t451.h
 ·refine hW.all 198 [(0, 199), (8, 454)] _ (by kernel_rfl) (by simp) ?_
  simp only [wy, wq, simprocAttr]
  refine ⟨?_, ?_⟩
  ·exact t199.h
  ·refine vcall_of (specFormatInt_vc nd (by omega) (by omega)) ?_
   simp only [wq, simprocAttr]
   exact t454.h
 ·refine hW.all 450 [(0, 451), (2, 454)] _ (by kernel_rfl) (by simp) ?_
  simp only [wy, wq, simprocAttr]
  exact ⟨t451.h, t454.h⟩
 ·refine hW.all 79 [(4, 95), (7, 207)] _ (by kernel_rfl) (by simp) ?_
  simp only [wy, wq, simprocAttr]
  refine ⟨?_, ?_⟩
  ·rw [hg]
   exact t95.h
  ·exact t207.h
 ·refine hW.all 199 [(3, 207), (8, 455)] _ (by kernel_rfl) (by simp) ?_
  simp only [wy, wq, simprocAttr]
  refine ⟨?_, ?_⟩
  ·refine ⟨hi, ?_⟩
   exact t207.h
  ·refine vcall_of (specFormatInt_vc nd (by omega) (by omega)) ?_
   simp only [wq, simprocAttr]
   exact t455.h
 ·refine hW.all 451 [(2, 455)] _ (by kernel_rfl) (by simp) ?_
  simp only [wy, wq, simprocAttr]
  exact t455.h
 ·refine hW.all 454 [(0, 455)] _ (by kernel_rfl) (by simp) ?_
  simp only [wy, wq, simprocAttr]
  exact t455.h
 ·refine hW.all 95 [(5, 127), (7, 223)] _ (by kernel_rfl) (by simp) ?_
  simp only [wy, wq, simprocAttr]
  exact ⟨⟨e5, t127.h⟩, t223.h⟩
 ·refine hW.all 207 [(4, 223), (8, 463)] _ (by kernel_rfl) (by simp) ?_
  simp only [wy, wq, simprocAttr]
  refine ⟨?_, ?_⟩
  ·rw [hg]
   exact t223.h
  ·refine vcall_of (specFormatInt_vc nd (by omega) (by omega)) ?_
   simp only [wq, simprocAttr]
   exact t463.h
 ·refine hW.all 455 [(3, 463)] _ (by kernel_rfl) (by simp) ?_
  simp only [wy, wq, simprocAttr]
  exact ⟨hi, t463.h⟩
 ·refine hW.all 127 [(7, 255)] _ (by kernel_rfl) (by simp) ?_
  simp only [wy, wq, simprocAttr]
  exact t255.h
 ·refine hW.all 223 [(5, 255), (8, 479)] _ (by kernel_rfl) (by simp) ?_
  simp only [wy, wq, simprocAttr]
  refine ⟨?_, ?_⟩
  ·refine ⟨e5, ?_⟩
   exact t255.h
  ·refine vcall_of (specFormatInt_vc nd (by omega) (by omega)) ?_
   simp only [wq, simprocAttr]
   exact t479.h
 ·refine hW.all 463 [(4, 479)] _ (by kernel_rfl) (by simp) ?_
  simp only [wy, wq, simprocAttr]
  skip
  rw [hg]
  exact t479.h
 ·refine hW.all 255 [(8, 511)] _ (by kernel_rfl) (by simp) ?_
  simp only [wy, wq, simprocAttr]
  skip
  refine vcall_of (specFormatInt_vc nd (by omega) (by omega)) ?_
  simp only [wq, simprocAttr]
  exact t511.h
 ·refine hW.all 479 [(5, 511)] _ (by kernel_rfl) (by simp) ?_
  simp only [wy, wq, simprocAttr]
  exact ⟨e5, t511.h⟩
 ·refine hW.all 511 [(9, 1023)] _ (by kernel_rfl) (by simp) ?_
  simp only [wy, wq, simprocAttr]
  exact ⟨e9, t1023.h⟩
 ·refine hW.all 1023 [(10, 2047)] _ (by kernel_rfl) (by simp) ?_
  simp only [wy, wq, simprocAttr]
  exact t2047.h
 ·refine hW.done 2047 _ (by kernel_rfl) ?_
  exact tK.h
 refine hK _ ?_
 clear hW W hK K
 refine vthen_n ?_
 refine VW.weak (weak_norm [(1, none), (4, none)] _) ?_
 simp only [wn, wq, simprocAttr]
 rw [show bs (word kd) ++ (⟨#[32]⟩ : ByteArray) ++ bs (Lib.itoa nd) = bs (word kd ++ 32 :: Lib.itoa nd) from by rw [show (⟨#[32]⟩ : ByteArray) = bs [32] from rfl, bs_app, bs_app, List.append_assoc]; rfl]
 have hfin : fmtAct (kd, nd, x, y) = (bs (actText (kd, nd, x, y)), true) := if_pos hok
 rw [hfin]
 clear hfin hok hc hi hg e5 e9
 unfold actText
 have lx := itoa_len (n := x) (by omega) (by omega)
 have ly := itoa_len (n := y) (by omega) (by omega)
 rw [bs_size] at lx ly
 rcases hk with rfl | rfl | rfl | rfl
 ·repeat refine VW.seq ?_
  refine VW.regl hT fun K hK => ?_
  simp only [wq, simprocAttr]
  refine hK _ ?_
  clear hK K
  try refine vthen_n ?_
  repeat refine VW.seq ?_
  refine VW.cond rfl (fun hc => ?_) (fun hc => by cases hc)
  repeat refine VW.seq ?_
  refine VW.regl hT fun K hK => ?_
  simp only [wq, simprocAttr]
  refine ⟨decide_eq_true (by simp only [bs32, bs_app, bs_size, List.length_append, List.length_cons, List.length_nil]; omega), ?_⟩
  refine vcall_of (specFormatInt_vc x (by omega) (by omega)) ?_
  simp only [wq, simprocAttr]
  refine ⟨decide_eq_true (by simp only [bs32, bs_app, bs_size, List.length_append, List.length_cons, List.length_nil]; omega), ?_⟩
  refine hK _ ?_
  clear hK K
  try refine vthen_n ?_
  repeat refine VW.seq ?_
  refine VW.regl hT fun K hK => ?_
  simp only [wq, simprocAttr]
  refine hK _ ?_
  clear hK K
  try refine vthen_n ?_
  repeat refine VW.seq ?_
  refine VW.cond rfl (fun hc => ?_) (fun hc => by cases hc)
  repeat refine VW.seq ?_
  refine VW.regl hT fun K hK => ?_
  simp only [wq, simprocAttr]
  refine ⟨decide_eq_true (by simp only [bs32, bs_app, bs_size, List.length_append, List.length_cons, List.length_nil]; omega), ?_⟩
  refine vcall_of (specFormatInt_vc y (by omega) (by omega)) ?_
  simp only [wq, simprocAttr]
  refine ⟨decide_eq_true (by simp only [bs32, bs_app, bs_size, List.length_append, List.length_cons, List.length_nil]; omega), ?_⟩
  refine hK _ ?_
  clear hK K
  try refine vthen_n ?_
  repeat refine VW.seq ?_
  refine VW.regl hT fun K hK => ?_
  simp only [wq, simprocAttr]
  refine hK _ ?_
  clear hK K
  try refine vthen_n ?_
  refine VW.ret ⟨.inl rfl, _, rfl, ?_⟩
  simp [bs32, bs_app]
 ·repeat refine VW.seq ?_
  refine VW.regl hT fun K hK => ?_
  simp only [wq, simprocAttr]
  refine hK _ ?_
  clear hK K
  try refine vthen_n ?_
  repeat refine VW.seq ?_
  refine VW.cond rfl (fun hc => ?_) (fun hc => by cases hc)
  repeat refine VW.seq ?_
  refine VW.regl hT fun K hK => ?_
  simp only [wq, simprocAttr]
  refine ⟨decide_eq_true (by simp only [bs32, bs_app, bs_size, List.length_append, List.length_cons, List.length_nil]; omega), ?_⟩
  refine vcall_of (specFormatInt_vc x (by omega) (by omega)) ?_
  simp only [wq, simprocAttr]
  refine ⟨decide_eq_true (by simp only [bs32, bs_app, bs_size, List.length_append, List.length_cons, List.length_nil]; omega), ?_⟩
  refine hK _ ?_
  clear hK K
  try refine vthen_n ?_
  repeat refine VW.seq ?_
  refine VW.regl hT fun K hK => ?_
  simp only [wq, simprocAttr]
  refine hK _ ?_
  clear hK K
  try refine vthen_n ?_
  repeat refine VW.seq ?_
  refine VW.cond rfl (fun hc => by cases hc) (fun hc => ?_)
  refine VW.skip (vthen_n ?_)
  repeat refine VW.seq ?_
  refine VW.regl hT fun K hK => ?_
  simp only [wq, simprocAttr]
  refine hK _ ?_
  clear hK K
  try refine vthen_n ?_
  refine VW.ret ⟨.inl rfl, _, rfl, ?_⟩
  simp [bs32, bs_app]
 ·repeat refine VW.seq ?_
  refine VW.regl hT fun K hK => ?_
  simp only [wq, simprocAttr]
  refine hK _ ?_
  clear hK K
  try refine vthen_n ?_
  repeat refine VW.seq ?_
  refine VW.cond rfl (fun hc => by cases hc) (fun hc => ?_)
  refine VW.skip (vthen_n ?_)
  repeat refine VW.seq ?_
  refine VW.regl hT fun K hK => ?_
  simp only [wq, simprocAttr]
  refine hK _ ?_
  clear hK K
  try refine vthen_n ?_
  repeat refine VW.seq ?_
  refine VW.cond rfl (fun hc => by cases hc) (fun hc => ?_)
  refine VW.skip (vthen_n ?_)
  repeat refine VW.seq ?_
  refine VW.regl hT fun K hK => ?_
  simp only [wq, simprocAttr]
  refine hK _ ?_
  clear hK K
  try refine vthen_n ?_
  refine VW.ret ⟨.inl rfl, _, rfl, ?_⟩
  simp [bs32, bs_app]
 ·repeat refine VW.seq ?_
  refine VW.regl hT fun K hK => ?_
  simp only [wq, simprocAttr]
  refine hK _ ?_
  clear hK K
  try refine vthen_n ?_
  repeat refine VW.seq ?_
  refine VW.cond rfl (fun hc => by cases hc) (fun hc => ?_)
  refine VW.skip (vthen_n ?_)
  repeat refine VW.seq ?_
  refine VW.regl hT fun K hK => ?_
  simp only [wq, simprocAttr]
  refine hK _ ?_
  clear hK K
  try refine vthen_n ?_
  repeat refine VW.seq ?_
  refine VW.cond rfl (fun hc => by cases hc) (fun hc => ?_)
  refine VW.skip (vthen_n ?_)
  repeat refine VW.seq ?_
  refine VW.regl hT fun K hK => ?_
  simp only [wq, simprocAttr]
  refine hK _ ?_
  clear hK K
  try refine vthen_n ?_
  refine VW.ret ⟨.inl rfl, _, rfl, ?_⟩
  simp [bs32, bs_app]
end Go.Proofs.YtoeblmcibheldaaDoor.V.W
end
section
namespace Go.Proofs.YtoeblmcibheldaaDoor.V.W
open Go Go.RowKit
abbrev sAT : Sh := .sl 26 sAct
def scr (ks : List Ac) : List UInt8 := (ks.map fun a => actText a ++ [10]).flatten
def scriptOf (ks : List Ac) : ByteArray × Bool := if (decide (ks.length ≤ 40) && ks.all actOk) = true then (bs (scr ks), true) else (bs [], false)
theorem scr_succ {ks : List Ac} {i : Nat} (h : i < ks.length) : scr (ks.take (i + 1)) = scr (ks.take i) ++ (actText (ks.getD i zA) ++ [10]) := by
 have e : ks.take (i + 1) = ks.take i ++ [ks.getD i zA] := by
  rw [List.take_add_one, List.getElem?_eq_getElem h, List.getD_eq_getElem?_getD, List.getElem?_eq_getElem h]
  rfl
 simp only [scr, e, List.map_append, List.flatten_append, List.map_cons, List.map_nil, List.flatten_cons, List.flatten_nil, List.append_nil]
theorem actText_len {a : Ac} (h : actOk a = true) : (actText a).length ≤ 71 := by
 obtain ⟨k, n, x, y⟩ := a
 obtain ⟨hn, hx, hy, hk⟩ := actOk_iff h
 have l1 := word_len k
 have l2 := itoa_len (n := n) (by omega) (by omega)
 have l3 := itoa_len (n := x) (by omega) (by omega)
 have l4 := itoa_len (n := y) (by omega) (by omega)
 rw [bs_size] at l2 l3 l4
 simp only [actText, List.length_append, List.length_cons]
 split <;> split <;> simp only [List.length_cons, List.length_nil] <;> omega
theorem scr_len {ks : List Ac} : ∀ i, i ≤ ks.length → (∀ k, k < i → actOk (ks.getD k zA) = true) → (scr (ks.take i)).length ≤ 72 * i := by
 intro i
 induction i with
 | zero => intro _ _; simp [scr]
 | succ i ih =>
  intro hi hk
  rw [scr_succ (by omega), List.length_append, List.length_append]
  have := ih (by omega) fun k h => hk k (by omega)
  have := actText_len (hk i (by omega))
  simp only [List.length_cons, List.length_nil]
  omega
theorem bs10 : (⟨#[10]⟩ : ByteArray) = bs [10] := rfl
theorem sbytes_app (a b : List UInt8) : sbytes (bs (a ++ b)) = sbytes (bs a) ++ sbytes (bs b) := by simp [sbytes, bs]
theorem sbytes_bs_len (a : List UInt8) : (sbytes (bs a)).length = a.length := by rw [sbytes_len, bs_size]
theorem all_of {ks : List Ac} (h : ∀ k, k < ks.length → actOk (ks.getD k zA) = true) : ks.all actOk = true := by
 rw [List.all_eq_true]
 intro a ha
 obtain ⟨k, hk, rfl⟩ := List.mem_iff_getElem.1 ha
 have := h k hk
 rwa [List.getD_eq_getElem?_getD, List.getElem?_eq_getElem hk] at this
theorem not_all {ks : List Ac} {i : Nat} (h : i < ks.length) (hb : actOk (ks.getD i zA) = false) : ks.all actOk = false := by
 rw [List.all_eq_false]
 refine ⟨ks[i], List.getElem_mem h, ?_⟩
 rw [List.getD_eq_getElem?_getD, List.getElem?_eq_getElem h] at hb
 exact fun e => by rw [show actOk ks[i] = false from hb] at e; cases e
set_option maxRecDepth 20000 in
set_option maxHeartbeats 2000000 in
theorem scriptText_vc (ks : List Ac) (hl : ks.length ≤ 2000000) : VC Tryd.prog 13 [.v false sAT ks] (· = rTB (scriptOf ks)) := by
 refine VC.of_body hT Tryd.func13 rfl (by kernel_rfl) [(.tmp 2, false, .str), (.tmp 3, false, .bool)] (by kernel_rfl) ?_
 show VW _ _ ([.v false sAT ks, D, D, D, D, D, D, D, D, D, D, D, D, D, D, D, D, D, D, D, D, D, D, D, D, D, D, D, D, D, D]) _
 repeat refine VW.seq ?_
 refine VW.regl hT fun K hK => ?_
 simp only [wq, simprocAttr]
 refine hK _ ?_
 clear hK K
 try refine vthen_n ?_
 repeat refine VW.seq ?_
 refine VW.regl hT fun K hK => ?_
 simp only [wq, simprocAttr]
 refine hK _ ?_
 clear hK K
 try refine vthen_n ?_
 repeat refine VW.seq ?_
 refine VW.cond rfl (fun hc => ?_) (fun hc => ?_)
 ·repeat refine VW.seq ?_
  refine VW.regl hT fun K hK => ?_
  simp only [wq, simprocAttr]
  refine hK _ ?_
  clear hK K
  try refine vthen_n ?_
  refine VW.ret ⟨.inl rfl, _, rfl, ?_⟩
  have : ¬ ks.length ≤ 40 := by
   have : (ks.length : Int) > 40 := of_decide_eq_true hc
   omega
  rw [scriptOf, decide_eq_false this]
  rfl
 have h40 : ks.length ≤ 40 := by
  have : ¬ (ks.length : Int) > 40 := of_decide_eq_false hc
  omega
 refine VW.skip (vthen_n ?_)
 repeat refine VW.seq ?_
 refine VW.regl hT fun K hK => ?_
 simp only [wq, simprocAttr]
 refine hK _ ?_
 clear hK K
 try refine vthen_n ?_
 repeat refine VW.seq ?_
 refine VW.regl hT fun K hK => ?_
 simp only [wq, simprocAttr]
 refine hK _ ?_
 clear hK K
 try refine vthen_n ?_
 repeat refine VW.seq ?_
 refine VW.block ?_
 refine VW.loop (α := Nat) [(4, none), (12, none), (13, none), (14, none)] (fun i => [D, D, D, D, .v false .str (bs (scr (ks.take i))), D, D, D, D, D, D, D, .v false sAT ks, .v false (.int .i64) (ks.length), .v false (.int .i64) (i), D, D, D, D, D, D, D, D, D, D, D, D, D, D, D, D]) (fun i => i ≤ ks.length ∧ ∀ k, k < i → actOk (ks.getD k zA) = true) (fun i => ks.length - i) ⟨0, ⟨by omega, fun k hk => by omega⟩, ?_⟩ fun i ⟨hi, hk⟩ => ?_
 ·simp only [wn, wq, simprocAttr]
  try rfl
 repeat refine VW.seq ?_
 refine VW.regl hT fun K hK => ?_
 simp only [wq, simprocAttr]
 refine hK _ ?_
 clear hK K
 try refine vthen_n ?_
 repeat refine VW.seq ?_
 refine VW.cond rfl (fun hc => ?_) (fun hc => ?_)
 ·have hlt : i < ks.length := by simpa using hc
  have hsl := scr_len i hi hk
  refine VW.skip (vthen_n ?_)
  repeat refine VW.seq ?_
  refine VW.block ?_
  repeat refine VW.seq ?_
  refine VW.regl hT fun K hK => ?_
  simp only [wq, simprocAttr]
  refine ⟨by simp; omega, ?_⟩
  refine hK _ ?_
  clear hK K
  try refine vthen_n ?_
  repeat refine VW.seq ?_
  refine VW.regl hT fun K hK => ?_
  simp only [wq, simprocAttr]
  refine vcall_of (fmtAct_vc _) ?_
  simp only [wq, simprocAttr]
  by_cases hok : actOk (ks.getD i zA) = true
  ·have hat := actText_len hok
   rw [show fmtAct (ks.getD i (0, 0, 0, 0)) = (bs (actText (ks.getD i zA)), true) from if_pos hok]
   simp only [wq, simprocAttr]
   refine hK _ ?_
   clear hK K
   try refine vthen_n ?_
   repeat refine VW.seq ?_
   refine VW.regl hT fun K hK => ?_
   simp only [wq, simprocAttr]
   refine hK _ ?_
   clear hK K
   try refine vthen_n ?_
   repeat refine VW.seq ?_
   refine VW.cond rfl (fun hc => by cases hc) (fun hc => ?_)
   refine VW.skip (vthen_n ?_)
   repeat refine VW.seq ?_
   refine VW.regl hT fun K hK => ?_
   simp only [wq, simprocAttr]
   refine ⟨decide_eq_true (by simp only [bs10, bs_app, bs_size, List.length_append, List.length_cons, List.length_nil]; omega), decide_eq_true (by simp only [bs10, bs_app, bs_size, List.length_append, List.length_cons, List.length_nil]; omega), ?_⟩
   refine hK _ ?_
   clear hK K
   try refine vthen_n ?_
   show vthen _ _ _ .normal _
   refine vthen_n ?_
   repeat refine VW.seq ?_
   refine VW.regl hT fun K hK => ?_
   simp only [wq, simprocAttr]
   refine hK _ ?_
   clear hK K
   try refine vthen_n ?_
   refine ⟨i + 1, ⟨by omega, fun k h => ?_⟩, ?_, by show ks.length - (i + 1) < ks.length - i; omega⟩
   ·rcases Nat.lt_or_ge k i with h1 | h1
    ·exact hk k h1
    ·rw [show k = i by omega]
     exact hok
   simp only [wn, wq, simprocAttr]
   rw [wrap64 (by omega) (by omega), bs10, bs_app, bs_app, scr_succ hlt, show (i : Int) + 1 = ((i + 1 : Nat) : Int) by omega]
  ·have hok : actOk (ks.getD i zA) = false := by simpa using hok
   rw [show fmtAct (ks.getD i (0, 0, 0, 0)) = (bs [], false) from if_neg (by rw [hok]; decide)]
   simp only [wq, simprocAttr]
   refine hK _ ?_
   clear hK K
   try refine vthen_n ?_
   repeat refine VW.seq ?_
   refine VW.regl hT fun K hK => ?_
   simp only [wq, simprocAttr]
   refine hK _ ?_
   clear hK K
   try refine vthen_n ?_
   repeat refine VW.seq ?_
   refine VW.cond rfl (fun hc => ?_) (fun hc => by cases hc)
   repeat refine VW.seq ?_
   refine VW.regl hT fun K hK => ?_
   simp only [wq, simprocAttr]
   refine hK _ ?_
   clear hK K
   try refine vthen_n ?_
   refine VW.ret ?_
   refine ⟨.inl rfl, _, rfl, ?_⟩
   rw [scriptOf, not_all hlt hok, Bool.and_false]
   rfl
 ·have hil : i = ks.length := by
   have : ¬ (i : Int) < (ks.length : Int) := of_decide_eq_false hc
   omega
  subst hil
  refine VW.exit ?_
  show vthen _ _ _ .normal _
  refine vthen_n ?_
  repeat refine VW.seq ?_
  refine VW.regl hT fun K hK => ?_
  simp only [wq, simprocAttr]
  refine hK _ ?_
  clear hK K
  try refine vthen_n ?_
  refine VW.ret ⟨.inl rfl, _, rfl, ?_⟩
  rw [scriptOf, decide_eq_true h40, all_of hk, List.take_length]
  rfl
set_option maxRecDepth 20000 in
set_option maxHeartbeats 2000000 in
theorem specScriptText_vc (ks : List Ac) (hl : ks.length ≤ 2000000) : VC Tryd.prog 11 [.v false sAT ks] (· = rTB (scriptOf ks)) := by
 refine VC.of_body hT Tryd.func11 rfl (by kernel_rfl) [(.tmp 2, false, .str), (.tmp 3, false, .bool)] (by kernel_rfl) ?_
 show VW _ _ ([.v false sAT ks, D, D, D, D, D, D, D, D, D, D, D, D, D, D, D, D, D, D, D, D, D, D, D, D, D, D, D, D, D, D, D, D, D, D, D]) _
 repeat refine VW.seq ?_
 refine VW.regl hT fun K hK => ?_
 simp only [wq, simprocAttr]
 refine hK _ ?_
 clear hK K
 try refine vthen_n ?_
 repeat refine VW.seq ?_
 refine VW.regl hT fun K hK => ?_
 simp only [wq, simprocAttr]
 refine hK _ ?_
 clear hK K
 try refine vthen_n ?_
 repeat refine VW.seq ?_
 refine VW.regl hT fun K hK => ?_
 simp only [wq, simprocAttr]
 refine hK _ ?_
 clear hK K
 try refine vthen_n ?_
 repeat refine VW.seq ?_
 refine VW.block ?_
 refine VW.loop (α := Nat) [(0, none), (4, some (5, .int .u8)), (5, none)] (fun i => [.v false sAT ks, D, D, D, .root (.val false) (.sl 5 (.int .u8)) .own (sbytes (bs (scr (ks.take i)))), .v false (.int .i64) (i), D, D, D, D, D, D, D, D, D, D, D, D, D, D, D, D, D, D, D, D, D, D, D, D, D, D, D, D, D, D]) (fun i => i ≤ ks.length ∧ (i = 0 ∨ ks.length ≤ 40) ∧ ∀ k, k < i → actOk (ks.getD k zA) = true) (fun i => ks.length - i) ⟨0, ⟨by omega, .inl rfl, fun k hk => by omega⟩, ?_⟩ fun i ⟨hi, hz, hk⟩ => ?_
 ·simp only [wn, wq, simprocAttr]
  try rfl
 repeat refine VW.seq ?_
 refine VW.regl hT fun K hK => ?_
 simp only [wq, simprocAttr]
 refine hK _ ?_
 clear hK K
 try refine vthen_n ?_
 repeat refine VW.seq ?_
 refine VW.cond rfl (fun hc => ?_) (fun hc => ?_)
 ·have hlt : i < ks.length := by simpa using hc
  have hsl := scr_len i hi hk
  refine VW.skip (vthen_n ?_)
  repeat refine VW.seq ?_
  refine VW.block ?_
  repeat refine VW.seq ?_
  refine VW.regl hT fun K hK => ?_
  simp only [wq, simprocAttr]
  refine ⟨by simp; omega, ?_⟩
  refine vcall_of (specFmtAct_vc _) ?_
  simp only [wq, simprocAttr]
  by_cases hok : actOk (ks.getD i zA) = true
  ·have hat := actText_len hok
   rw [show fmtAct (ks.getD i (0, 0, 0, 0)) = (bs (actText (ks.getD i zA)), true) from if_pos hok]
   simp only [wq, simprocAttr]
   refine hK _ ?_
   clear hK K
   try refine vthen_n ?_
   repeat refine VW.seq ?_
   refine VW.regl hT fun K hK => ?_
   simp only [wq, simprocAttr]
   refine hK _ ?_
   clear hK K
   try refine vthen_n ?_
   repeat refine VW.seq ?_
   refine VW.cond rfl (fun hc => ?_) (fun hc => ?_)
   ·have h40 : ¬ ks.length ≤ 40 := by
     have : (ks.length : Int) > 40 := of_decide_eq_true hc
     omega
    repeat refine VW.seq ?_
    refine VW.regl hT fun K hK => ?_
    simp only [wq, simprocAttr]
    refine hK _ ?_
    clear hK K
    try refine vthen_n ?_
    refine VW.ret ?_
    refine ⟨.inl rfl, _, rfl, ?_⟩
    rw [scriptOf, decide_eq_false h40]
    rfl
   have h40 : ks.length ≤ 40 := by
    have : ¬ (ks.length : Int) > 40 := of_decide_eq_false hc
    omega
   refine VW.skip (vthen_n ?_)
   repeat refine VW.seq ?_
   refine VW.regl hT fun K hK => ?_
   simp only [wq, simprocAttr]
   refine ⟨decide_eq_true (by simp only [bs10, bs_app, bs_size, List.length_append, List.length_cons, List.length_nil]; omega), ?_⟩
   rw [bs10, bs_app]
   refine vhook_of (does_appstr hT (t := 40) (e := 5) rfl rfl rfl (by kernel_rfl) rfl rfl ?_ rfl) ?_
   ·simp only [limOk, sbytes_bs_len, bs_size, List.length_append, List.length_cons, List.length_nil]
    exact decide_eq_true (by omega)
   simp only [wq, simprocAttr]
   refine hK _ ?_
   clear hK K
   try refine vthen_n ?_
   repeat refine VW.seq ?_
   refine VW.regl hT fun K hK => ?_
   simp only [wq, simprocAttr]
   refine hK _ ?_
   clear hK K
   try refine vthen_n ?_
   refine ⟨i + 1, ⟨by omega, .inr h40, fun k h => ?_⟩, ?_, by show ks.length - (i + 1) < ks.length - i; omega⟩
   ·rcases Nat.lt_or_ge k i with h1 | h1
    ·exact hk k h1
    ·rw [show k = i by omega]
     exact hok
   simp only [wn, wq, simprocAttr]
   rw [wrap64 (by omega) (by omega), scr_succ hlt, ← sbytes_app, show (i : Int) + 1 = ((i + 1 : Nat) : Int) by omega]
  ·have hok : actOk (ks.getD i zA) = false := by simpa using hok
   rw [show fmtAct (ks.getD i (0, 0, 0, 0)) = (bs [], false) from if_neg (by rw [hok]; decide)]
   simp only [wq, simprocAttr]
   refine hK _ ?_
   clear hK K
   try refine vthen_n ?_
   repeat refine VW.seq ?_
   refine VW.regl hT fun K hK => ?_
   simp only [wq, simprocAttr]
   refine hK _ ?_
   clear hK K
   try refine vthen_n ?_
   repeat refine VW.seq ?_
   refine VW.cond rfl (fun hc => ?_) (fun hc => by cases hc)
   repeat refine VW.seq ?_
   refine VW.regl hT fun K hK => ?_
   simp only [wq, simprocAttr]
   refine hK _ ?_
   clear hK K
   try refine vthen_n ?_
   refine VW.ret ?_
   refine ⟨.inl rfl, _, rfl, ?_⟩
   rw [scriptOf, not_all hlt hok, Bool.and_false]
   rfl
 ·have hil : i = ks.length := by
   have : ¬ (i : Int) < (ks.length : Int) := of_decide_eq_false hc
   omega
  subst hil
  have h40 : ks.length ≤ 40 := by omega
  refine VW.exit ?_
  show vthen _ _ _ .normal _
  refine vthen_n ?_
  repeat refine VW.seq ?_
  refine VW.regl hT fun K hK => ?_
  simp only [wq, simprocAttr]
  refine vhook_of (does_tostr (e := 5) (e' := 5) (ys := sbytes (bs (scr (ks.take ks.length)))) rfl (by kernel_rfl) (by kernel_rfl) (by kernel_rfl) rfl rfl) ?_
  simp only [wq, simprocAttr]
  refine hK _ ?_
  clear hK K
  try refine vthen_n ?_
  refine VW.ret ⟨.inl rfl, _, rfl, ?_⟩
  rw [scriptOf, decide_eq_true h40, all_of hk, List.take_length, bstr_sbytes]
  rfl
end Go.Proofs.YtoeblmcibheldaaDoor.V.W
end
section
namespace Go.Proofs.YtoeblmcibheldaaDoor.V.W
open Go Go.RowKit
/-- what is left of n when k was taken -/
def Left (n : Int) (r : PV) (k : Nat) : Prop := ∃ m : Int, r = .v false (.int .i64) m ∧ m ≤ n ∧ (0 ≤ m → m + k ≤ n)
theorem row_eq {α : Type} {xs ys : List α} (z : α) (hlen : xs.length = ys.length) (h : ∀ k, k < xs.length → xs.getD k z = ys.getD k z) : xs = ys := by
 apply List.ext_getElem hlen
 intro k h1 h2
 have := h k h1
 simpa [List.getD_eq_getElem?_getD, h1, h2] using this
end Go.Proofs.YtoeblmcibheldaaDoor.V.W
end

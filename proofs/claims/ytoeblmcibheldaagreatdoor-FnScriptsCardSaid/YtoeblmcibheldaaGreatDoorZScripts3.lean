/- Texts A3 H1 H2 J1 KS VT1 W1 K1 K2 in one. No condition. -/
import Derived.Test.YtoeblmcibheldaaGreatDoorZScripts2
import Derived.LoopN
import Derived.ChangeArms
import Derived.SizedLaws
import Derived.WideShapes
import Derived.ChangeShapes
import Derived.DataReads
import Derived.Laws.BytesArg
import Derived.Lib.ItoaNum
import Derived.Lib.ItoaLen
import Derived.Lib.AtoiAll
import Derived.Lib.Fields
import Derived.Shelf.Strings.Builder1
import Derived.Shelf.Strings.Builder2
import Derived.Shelf.Strings.OnBuilder
import Derived.Shelf.Small.Bits
import Derived.Shelf.Utf8.RuneCount
import Derived.Shelf.Strconv.Atoi
import Derived.Shelf.Strconv.Itoa0
import Derived.Shelf.Strconv.Itoa1
import Derived.Shelf.LaysM
import Derived.Shelf.Strconv.Itoa2
import Derived.Shelf.Strconv.Itoa3
import Derived.Shelf.Strconv.AtoiErrFast
import Derived.Shelf.Strconv.ParseIntEmpty
import Derived.Shelf.Strconv.AtoiFail
import Derived.Shelf.Strconv.Clone
import Derived.Shelf.Strconv.SyntaxError
import Derived.Shelf.LaysC
import Derived.Shelf.Strconv.ToError
import Derived.Shelf.Strconv.Lower
import Derived.Shelf.Strconv.ParseUint10
import Derived.Shelf.Strconv.ParseUint10Empty
import Derived.Shelf.Strconv.ParseUint10Any
import Derived.Shelf.Strconv.ParseInt10
import Derived.Shelf.Strconv.AtoiLong
import Derived.Shelf.Strconv.AtoiInnerAll
import Derived.Shelf.Strconv.RangeError
import Derived.Shelf.Strconv.ToErrorRange
import Derived.Shelf.Strconv.AtoiAll
import Derived.Shelf.Strconv.ErrVarAll
import Derived.Shelf.Strings.Search1
import Derived.Shelf.Strings.Search2
import Derived.Shelf.Strings.Search3
import Derived.Shelf.Strings.Count
import Derived.Shelf.Strings.Shaped
import Derived.Shelf.Strings.Split
import Derived.Shelf.Strings.Fields
import Derived.Shelf.Strings.SplitShaped
import Derived.Shelf.Unicode.Latin
import Derived.Shelf.Unicode.Decode
import Derived.Shelf.Strings.RuneCount
import Derived.Shelf.Strings.Explode
import Derived.Shelf.Bits.Mul64
import Derived.Shelf.Unicode.DecodeSlow
import Derived.Shelf.Unicode.DecodeAny
import Derived.Shelf.Unicode.Is16White
import Derived.Shelf.Unicode.IsSpaceAny
import Derived.Shelf.Unicode.Is16Any
import Derived.Shelf.Unicode.Is32Any
import Derived.Shelf.Unicode.ExclAny
import Derived.Shelf.Slices.Turned
import Derived.Shelf.Slices.Reverse
import Derived.Ground.Names2Prog
import Derived.Shelf.Slices.Clone
import Derived.Shelf.Slices.SearchI
import Derived.Shelf.Slices.Cells
import Derived.Ground.SlgnProg
import Derived.Shelf.SlicesE.Clone
import Derived.Test.YtoeblmcibheldaaGreatDoorProg
import Derived.KernelRfl
import Derived.Lib.AppendIntMem
set_option linter.unnecessarySimpa false
set_option linter.unusedSimpArgs false
set_option linter.unusedVariables false
section
section
/- Regions: one that runs as it is listed, and one that runs in any order. No condition. -/
namespace Go.Proofs.YtoeblmcibheldaaGreatDoor.V
open Go Go.RowKit
def VW (P : Program) (c : Code) (st : St) (Q : Exit → St → Prop) : Prop :=
 ∀ (L : Lay) (a : Act) (w : World), Rel L st a w Free → c.wp P (fun e a' w' => ∃ L' st', Stp L L' w w' ∧ Rel L' st' a' w' Free ∧ Q e st') a w
def gval (st : St) (ops : Array Oper) (j : Nat) : Option (Option Bool) :=
 match (ops[j]?).bind (·.dst) with
 | none => some none
 | some d => match st.at d with
  | .v false .bool b => some (some b)
  | .root (.tup _) _ _ _ => some none
  | _ => none
/-- what follows, kept from the rewriter's eyes -/
class Hd (α : Type) where
 val : α
theorem hdv {α : Type} (x : α) : @Hd.val α ⟨x⟩ = x := rfl
/-- two roads -/
def vbranch (b want : Bool) [K1 : Hd Prop] [K2 : Hd (Unit → Prop)] : Prop := (b = want → K1.val) ∧ (b = (!want) → K2.val ())
theorem vbr {b want : Bool} {K1 : Prop} {K2 : Unit → Prop} (h1 : b = want → K1) (h2 : b = (!want) → K2 ()) : @vbranch b want ⟨K1⟩ ⟨K2⟩ := ⟨h1, h2⟩
theorem vb_tt {K1 : Prop} {K2 : Unit → Prop} : @vbranch true true ⟨K1⟩ ⟨K2⟩ = K1 := by simp [vbranch]
theorem vb_tf {K1 : Prop} {K2 : Unit → Prop} : @vbranch true false ⟨K1⟩ ⟨K2⟩ = K2 () := by simp [vbranch]
theorem vb_ft {K1 : Prop} {K2 : Unit → Prop} : @vbranch false true ⟨K1⟩ ⟨K2⟩ = K2 () := by simp [vbranch]
theorem vb_ff {K1 : Prop} {K2 : Unit → Prop} : @vbranch false false ⟨K1⟩ ⟨K2⟩ = K1 := by simp [vbranch]
def vguard (st : St) (ops : Array Oper) (o : Oper) [K : Hd (Bool → St → Prop)] : Prop :=
 match o.guard with
 | none => K.val true st
 | some (j, want) => match (ops[j]?).bind (·.dst) with
  | none => K.val false st
  | some d => match st.at d with
   | .v false .bool b => @vbranch b want ⟨K.val true (st.set d (.v false .bool want))⟩ ⟨fun _ => K.val false (st.set d (.v false .bool (!want)))⟩
   | .root (.tup _) _ _ _ => K.val false st
   | _ => False
/-- what is left of an operation that was not wanted -/
def skipPV : PV := .root (.tup []) .unit .fz ()
/-- a call: the arguments are read alone, or (X) one of them is handed over -/
def vcall (P : Program) (f : FuncId) (args : List PV) [K : Hd (PV → Prop)] [X : Hd Prop] : Prop := (∃ R, VC P f args R ∧ ∀ pv, R pv → K.val pv) ∨ X.val
theorem vcall_of {P : Program} {f : FuncId} {args : List PV} {K : PV → Prop} {X : Prop} {pv : PV} (h : VC P f args (· = pv)) (k : K pv) : @vcall P f args ⟨K⟩ ⟨X⟩ := .inl ⟨_, h, fun _ e => e ▸ k⟩
theorem vcall_ex {P : Program} {f : FuncId} {args : List PV} {K R : PV → Prop} {X : Prop} (h : VC P f args R) (k : ∀ pv, R pv → K pv) : @vcall P f args ⟨K⟩ ⟨X⟩ := .inl ⟨_, h, k⟩
/-- a call, the i-th argument handed over -/
def vxcall (P : Program) (f : FuncId) (ps : List PV) (i : Nat) [K : Hd (PV → PV → Prop)] : Prop := ∃ R, VX P f ps i R ∧ ∀ pv ot, R pv ot → K.val pv ot
theorem vxcall_ex {P : Program} {f : FuncId} {ps : List PV} {i : Nat} {R K : PV → PV → Prop} (h : VX P f ps i R) (k : ∀ pv ot, R pv ot → K pv ot) : @vxcall P f ps i ⟨K⟩ := ⟨_, h, k⟩
theorem vxcall_of {P : Program} {f : FuncId} {ps : List PV} {i : Nat} {K : PV → PV → Prop} {pv ot : PV} (h : VX P f ps i (fun a b => a = pv ∧ b = ot)) (k : K pv ot) : @vxcall P f ps i ⟨K⟩ := ⟨_, h, fun _ _ e => e.1 ▸ e.2 ▸ k⟩
def vxgo (P : Program) (st1 : St) (i : Nat) (pvi : PV) (fop : Operand) (args : List Operand) [K : Hd (Bool → PV → PV → Prop)] : Prop :=
 match ref st1 fop with
 | .fn f caps => match lendCaps st1 caps, lendX st1 pvi i args with
  | some cs, some (ps, b) => @vxcall P f (ps ++ cs.map capPV) i ⟨fun pv ot => K.val (b || caps.any isAdr) pv ot⟩
  | _, _ => False
 | _ => False
def vio (P : Program) (st : St) (fop : Operand) (args : List Operand) (dst : Option Tmp) (i : Nat) [K : Hd (St → PV → Prop)] : Prop :=
 match args[i]? with
 | none => False
 | some xo => match ref st xo with
  | .h agg g p => match look st g p with
   | some ⟨s, fl, x⟩ => match put st g p s .junk x hitS with
    | some st1 => @vxgo P st1 i (.root (.val agg) s fl x) fop args ⟨fun b pv ot => okRes b pv = true ∧ xback st1 g p (.val agg) s fl x b hitS ot fun st2 => nonroot st2 dst = true ∧ K.val st2 pv⟩
    | none => False
   | none => False
  | .adr g [] => match st.at g with
   | .root (.box t0) s fl x => match put st g [] s .junk x hit with
    | some st1 => @vxgo P ((st1.map (V.drop g)).set g .dead) i (.root (.box t0) s fl x) fop args ⟨fun b pv ot => okRes b pv = true ∧ xback st1 g [] (.box t0) s fl x b hit ot fun st2 => nonroot st2 dst = true ∧ K.val st2 pv⟩
    | none => False
   | .root (.ibox t0 b0) s fl x => match put st g [] s .junk x hit with
    | some st1 => @vxgo P ((st1.map (V.drop g)).set g .dead) i (.root (.box t0) s fl x) fop args ⟨fun b pv ot => okRes b pv = true ∧ xback st1 g [] (.box t0) s fl x b hit ot fun st2 => nonroot st2 dst = true ∧ K.val st2 pv⟩
    | none => False
   | _ => False
  | _ => False
def vmv (P : Program) (st : St) (fop : Operand) (args : List Operand) (dst : Option Tmp) (i : Nat) [K : Hd (St → PV → Prop)] : Prop :=
 match args[i]? with
 | none => False
 | some xo => match ref st xo with
  | .h agg g p => match take st g p with
   | some (⟨s, fl, x⟩, st1) => @vxgo P st1 i (.root (.val agg) s fl x) fop args ⟨fun b pv ot => okRes b pv = true ∧ nonroot st1 dst = true ∧ K.val st1 pv⟩
   | none => False
  | _ => False
def vxx (P : Program) (st : St) (fop : Operand) (args : List Operand) (dst : Option Tmp) (K : St → PV → Prop) : Prop := ∃ i, @vio P st fop args dst i ⟨K⟩ ∨ @vmv P st fop args dst i ⟨K⟩
theorem vcall_io {P : Program} {f : FuncId} {ps : List PV} {K0 : PV → Prop} {st : St} {fop : Operand} {args : List Operand} {dst : Option Tmp} {K : St → PV → Prop} (i : Nat) (h : @vio P st fop args dst i ⟨K⟩) : @vcall P f ps ⟨K0⟩ ⟨vxx P st fop args dst K⟩ := .inr ⟨i, .inl h⟩
/-- an operation that a lemma of its own tells -/
def vhook (P : Program) (st : St) (o : Oper) [K : Hd (St → PV → Prop)] : Prop := Does P o st (fun st' => ∃ st1 pv, K.val st1 pv ∧ st' = setD st1 o.dst pv)
theorem vhook_of {P : Program} {st st1 : St} {o : Oper} {K : St → PV → Prop} {pv : PV} (h : Does P o st (· = setD st1 o.dst pv)) (k : K st1 pv) : @vhook P st o ⟨K⟩ := fun L a w next Q hr hn => h L a w next Q hr fun st' L' a' w' e s r => hn st' L' a' w' ⟨st1, pv, k, e⟩ s r
/-- an operation that reads alone -/
theorem Does.pure {P : Program} {st : St} {o : Oper} {pv : PV} (hd : nonroot st o.dst = true) (hp : pv.isRoot = false) (h : ∀ (L : Lay) (a : Act) (w : World), Rel L st a w Free → ∃ v, (execOp a.eval o).run P w = .ok (.value v) w ∧ ORep L st w pv v) : Does P o st (· = setD st o.dst pv) := by
 intro L a w next Q hr hn
 obtain ⟨v, e1, e4⟩ := h L a w hr
 have e5 := hn _ L (a.put o.dst v) w rfl (Stp.refl _ _)
 unfold Oper.wp
 rw [e1]
 refine e5 ?_
 cases hd' : o.dst with
 | none => exact hr
 | some d => exact hr.setO (nonroot_spec hd d hd') hp e4
def vread (P : Program) (T : List (Nat × TI)) (st : St) (o : Oper) [K : Hd (St → PV → Prop)] : Prop :=
 match o.op with
 | .call ⟨.value fop, args, _⟩ => match ref st fop with
  | .fn f caps => match lendCaps st caps, lendAll st st args.toList with
   | some cs, some (ps, b) => nonroot st o.dst = true ∧ @vcall P f (ps ++ cs.map capPV) ⟨fun pv => okRes (b || caps.any isAdr) pv = true ∧ K.val st pv⟩ ⟨vxx P st fop args.toList o.dst fun st2 pv => K.val st2 pv⟩
   | _, _ => False
  | _ => False
 | _ => match nilTest T st o with
  | some n => nonroot st o.dst = true ∧ ∀ b, (0 < n → b = false) → K.val st (.v false .bool b)
  | none => match pop T st st o with
   | some out => out.c = true ∧ K.val out.st out.pv
   | none => @vhook P st o ⟨fun st1 pv => K.val st1 pv⟩
def vops (P : Program) (T : List (Nat × TI)) (ops : Array Oper) : List Oper → St → (St → Prop) → Prop
 | [], st, K => K st
 | o :: r, st0, K => @vguard st0 ops o ⟨fun run st => match run with
  | true => @vread P T st o ⟨fun st1 pv => nonroot st1 o.dst = true ∧ vops P T ops r (setD st1 o.dst pv) K⟩
  | false => nonroot st o.dst = true ∧ vops P T ops r (setD st o.dst skipPV) K⟩
section
variable {P : Program} {o : Oper} {L L1 : Lay} {st st1 : St} {a : Act} {w w' : World} {R : Nat → Prop} {T : List (Nat × TI)} {rt : St} {ops : Array Oper}
theorem gval_ok (h : Rel L st a w R) {j : Nat} {q : Option Bool} (hg : gval st ops j = some q) : yielded ops a.tmps j = q := by
 unfold gval at hg
 unfold yielded
 split at hg
 ·rename_i hn
  obtain rfl := Option.some.inj hg
  rw [hn]; rfl
 ·rename_i d hd
  rw [hd]
  simp only [Option.bind_some]
  have hlt : ∀ pv, st.at d = pv → pv ≠ .dead → d < a.tmps.size := fun pv e hne => by
   rw [h.size]
   rcases Nat.lt_or_ge d st.length with hl | hl
   ·exact hl
   ·rw [St.at_ge hl] at e; exact absurd e.symm hne
  split at hg
  ·rename_i b hb
   obtain rfl := Option.some.inj hg
   have hl := hlt _ hb (by simp)
   have hv := h.orep (t := d) (by rw [hb]; rfl)
   rw [hb] at hv
   have := hv.bool
   rw [Array.getElem?_eq_getElem hl]
   have e : a.tmps.getD d undef = a.tmps[d] := by simp [Array.getD, hl]
   rw [e] at this
   rw [this]
  ·rename_i aggs s f x hb
   obtain rfl := Option.some.inj hg
   have hl := hlt _ hb (by simp)
   obtain ⟨⟨r1, _⟩, _⟩ := h.root hb
   rw [Array.getElem?_eq_getElem hl]
   have e : a.tmps.getD d undef = a.tmps[d] := by simp [Array.getD, hl]
   rw [e] at r1
   rw [r1]
  ·cases hg
theorem set_same {st : St} {d : Nat} {pv : PV} (h : st.at d = pv) : st.set d pv = st := by
 apply List.ext_getElem?
 intro i
 rw [List.getElem?_set]
 split
 ·rename_i e
  subst e
  split
  ·rename_i hl
   unfold St.at at h
   rw [List.getD_eq_getElem?_getD, List.getElem?_eq_getElem hl] at h
   rw [List.getElem?_eq_getElem hl, ← h]; rfl
  ·rename_i hl; rw [List.getElem?_eq_none (by omega)]
 ·rfl
theorem vguard_spec {K : Bool → St → Prop} (hk : @vguard st ops o ⟨K⟩) : ∃ run, K run st ∧ ∀ (st' : St) (L : Lay) (a : Act) (w : World) (R : Nat → Prop), (∀ (j : Nat) (want : Bool) (d : Nat), o.guard = some (j, want) → (ops[j]?).bind (·.dst) = some d → st'.at d = st.at d) → Rel L st' a w R → Region.wanted o (yielded ops a.tmps) = run := by
 unfold vguard at hk
 cases hg : o.guard with
 | none =>
  rw [hg] at hk
  exact ⟨true, hk, fun st' L a w R _ _ => by unfold Region.wanted; rw [hg]⟩
 | some q =>
  obtain ⟨j, want⟩ := q
  rw [hg] at hk
  simp only at hk
  have hw : ∀ (tmps : Array Value) (q : Option Bool), yielded ops tmps j = q → Region.wanted o (yielded ops tmps) = (q == some want) := fun tmps q hq => by unfold Region.wanted; rw [hg]; simp only; rw [hq]
  split at hk
  ·rename_i hd
   refine ⟨false, hk, fun st' L a w R _ h => ?_⟩
   rw [hw _ none (gval_ok (st := st') h (by unfold gval; rw [hd]))]; rfl
  ·rename_i d hd
   have hy : ∀ (st' : St) (L : Lay) (a : Act) (w : World) (R : Nat → Prop), st'.at d = st.at d → Rel L st' a w R → ∀ q, (match st.at d with | .v false .bool b => some (some b) | .root (.tup _) _ _ _ => some none | _ => none) = some q → yielded ops a.tmps j = q := fun st' L a w R he h q hq => gval_ok (st := st') h (by unfold gval; rw [hd]; simp only [he]; exact hq)
   split at hk
   ·rename_i b hb
    by_cases e : b = want
    ·have := hk.1 e
     rw [set_same (by rw [hb, e])] at this
     refine ⟨true, this, fun st' L a w R hag h => ?_⟩
     rw [hw _ (some b) (hy st' L a w R (hag j want d rfl hd) h (some b) (by rw [hb])), e]
     simp
    ·have e2 : b = !want := by cases b <;> cases want <;> simp_all
     have := hk.2 e2
     rw [set_same (by rw [hb, e2])] at this
     refine ⟨false, this, fun st' L a w R hag h => ?_⟩
     rw [hw _ (some b) (hy st' L a w R (hag j want d rfl hd) h (some b) (by rw [hb]))]
     simp [e]
   ·rename_i aggs s f x hb
    refine ⟨false, hk, fun st' L a w R hag h => ?_⟩
    rw [hw _ none (hy st' L a w R (hag j want d rfl hd) h none (by rw [hb]))]; rfl
   ·exact hk.elim
theorem vguard_ok (h : Rel L st a w R) {K : Bool → St → Prop} (hk : @vguard st ops o ⟨K⟩) : K (Region.wanted o (yielded ops a.tmps)) st := by
 obtain ⟨run, h1, h2⟩ := vguard_spec hk
 rw [h2 st L a w R (fun _ _ _ _ _ => rfl) h]
 exact h1
theorem skip_ok (h : Rel L st a w Free) {d : Option Tmp} (hd : nonroot st d = true) : ∃ L', Stp L L' w w ∧ Rel L' (setD st d skipPV) (a.put d undef) w Free := by
 cases d with
 | none => exact ⟨L, Stp.refl _ _, h⟩
 | some d =>
  refine ⟨L.set d Free [] none, ⟨rfl, rfl, rfl, Nat.le_refl _, fun _ _ _ => rfl, .of rfl, fun t b hb => ?_⟩, h.setR (nonroot_spec hd d rfl) (k := .tup []) (s := .unit) (f := .fz) (x := ()) (B := Free) (Fd := Free) ⟨rfl, rfl, rfl⟩ (fun _ h => h) (fun A hA => by cases hA) rfl (fun b hb => hb.elim) (fun b hb => hb.elim)⟩
  simp only [Lay.set] at hb
  split at hb
  ·exact hb.elim
  ·exact .inl ⟨t, hb⟩
theorem vxx_ok {fop : Operand} {args : Array Operand} {ts : Array TypeId} {K : St → PV → Prop} (ho : o.op = .call ⟨.value fop, args, ts⟩) (hk : vxx P st fop args.toList o.dst K) : Does P o st (fun st' => ∃ st1 pv, K st1 pv ∧ st' = setD st1 o.dst pv) := by
 obtain ⟨i, hk | hk⟩ := hk
 ·unfold vio at hk
  split at hk
  ·exact hk.elim
  ·rename_i xo hxo
   split at hk
   ·rename_i agg g p hx
    split at hk
    ·rename_i s fl x hl
     split at hk
     ·rename_i st1 hj
      unfold vxgo at hk
      split at hk
      ·rename_i f caps hf
       split at hk
       ·rename_i cs ps b hcs hps
        obtain ⟨X, hv, hX⟩ := hk
        exact does_io ho hxo hx hl hj hf hcs hps hv hX
       ·exact hk.elim
      ·exact hk.elim
     ·exact hk.elim
    ·exact hk.elim
   ·rename_i g hx
    have fin : ∀ {k : RK} {t0 : TypeId} {s : Sh} {fl : Fl} {x : s.ty}, st.at g = .root k s fl x → (k = .box t0 ∨ ∃ b0, k = .ibox t0 b0) → (match put st g [] s .junk x hit with
      | some st1 => @vxgo P ((st1.map (V.drop g)).set g .dead) i (.root (.box t0) s fl x) fop args.toList ⟨fun b pv ot => okRes b pv = true ∧ xback st1 g [] (.box t0) s fl x b hit ot fun st2 => nonroot st2 o.dst = true ∧ K st2 pv⟩
      | none => False) → Does P o st (fun st' => ∃ st1 pv, K st1 pv ∧ st' = setD st1 o.dst pv) := by
     intro k t0 s fl x hg hkk hk
     split at hk
     ·rename_i st1 hj
      unfold vxgo at hk
      split at hk
      ·rename_i f caps hf
       split at hk
       ·rename_i cs ps b hcs hps
        obtain ⟨X, hv, hX⟩ := hk
        exact does_bx ho hxo hx hg hkk hj hf hcs hps hv hX
       ·exact hk.elim
      ·exact hk.elim
     ·exact hk.elim
    split at hk
    ·rename_i t0 s fl x hg
     exact fin hg (.inl rfl) hk
    ·rename_i t0 b0 s fl x hg
     exact fin hg (.inr ⟨b0, rfl⟩) hk
    ·exact hk.elim
   ·exact hk.elim
 ·unfold vmv at hk
  split at hk
  ·exact hk.elim
  ·rename_i xo hxo
   split at hk
   ·rename_i agg g p hx
    split at hk
    ·rename_i s fl x st1 hj
     unfold vxgo at hk
     split at hk
     ·rename_i f caps hf
      split at hk
      ·rename_i cs ps b hcs hps
       obtain ⟨X, hv, hX⟩ := hk
       exact does_mv ho hxo hx hj hf hcs hps hv hX
      ·exact hk.elim
     ·exact hk.elim
    ·exact hk.elim
   ·exact hk.elim
theorem vread_ok (hT : TabOk P T) {K : St → PV → Prop} (hk : @vread P T st o ⟨K⟩) (hd : ∀ st1 pv, K st1 pv → nonroot st1 o.dst = true) : Does P o st (fun st' => ∃ st1 pv, K st1 pv ∧ st' = setD st1 o.dst pv) := by
 have pop_case : (∃ out, pop T st st o = some out ∧ out.c = true ∧ K out.st out.pv) → Does P o st (fun st' => ∃ st1 pv, K st1 pv ∧ st' = setD st1 o.dst pv) := by
  rintro ⟨out, hp, hc, hK⟩ L a w next Q h hn
  exact does_pop hT (fun _ _ _ _ _ h => h) hp hc (hd _ _ hK) L a w next Q h fun st' L' a' w' e s r => hn st' L' a' w' ⟨_, _, hK, e⟩ s r
 unfold vread at hk
 split at hk
 ·rename_i fop args ts ho
  split at hk
  ·rename_i f caps hf
   split at hk
   ·rename_i cs ps b hcs hps
    obtain ⟨hnr, ⟨R, hv, hR⟩ | hk⟩ := hk
    case inr => exact vxx_ok ho hk
    intro L a w next Q h hn
    exact does_call (fun _ _ _ _ _ h => h) ho hf hcs hps hv hnr (fun pv hpv => (hR pv hpv).1) L a w next Q h fun st' L' a' w' e s r => by
     obtain ⟨pv, hpv, e⟩ := e
     exact hn st' L' a' w' ⟨st, pv, (hR pv hpv).2, e⟩ s r
   ·exact hk.elim
  ·exact hk.elim
 ·split at hk
  ·rename_i n hn
   intro L a w next Q h hnx
   exact does_nil hT hn hk.1 L a w next Q h fun st' L' a' w' ⟨b, hb, e⟩ s r => hnx st' L' a' w' ⟨st, _, hk.2 b hb, e⟩ s r
  ·split at hk
   ·rename_i out hp
    exact pop_case ⟨out, hp, hk.1, hk.2⟩
   ·exact hk
theorem vops_ok (hT : TabOk P T) {K : St → Prop} {Q : Exit → Act → World → Prop} : ∀ (os : List Oper) (i : Nat), ops.toList.drop i = os → ∀ {L : Lay} {st : St} {a : Act} {w : World}, vops P T ops os st K → Rel L st a w Free → (∀ st' L' a' w', K st' → Stp L L' w w' → Rel L' st' a' w' Free → Q .normal a' w') → wpOps P ops Q (List.range' i os.length) a w
 | [], i, hi, L, st, a, w, hv, h, hk => by
  simp only [List.length_nil, List.range'_zero, wpOps]
  exact hk st L a w hv (Stp.refl _ _) h
 | o :: r, i, hi, L, st, a, w, hv, h, hk => by
  have ho : ops[i]? = some o := by
   have : (ops.toList.drop i)[0]? = some o := by rw [hi]; rfl
   rw [List.getElem?_drop] at this
   simpa using this
  have hi' : ops.toList.drop (i + 1) = r := by rw [← List.drop_drop, hi]; rfl
  simp only [List.length_cons, List.range'_succ, wpOps, ho]
  unfold vops at hv
  have hg := vguard_ok h hv
  cases hw : Region.wanted o (yielded ops a.tmps) with
  | true =>
   rw [hw] at hg
   simp only at hg
   rw [if_pos rfl]
   left
   refine vread_ok hT hg (fun st1 pv hK => hK.1) L a w _ _ h fun st' L' a' w' ⟨st1, pv, hK, e⟩ hs hr => ?_
   subst e
   exact vops_ok hT r (i + 1) hi' hK.2 hr fun st2 L2 a2 w2 k1 k2 k3 => hk st2 L2 a2 w2 k1 (hs.trans k2) k3
  | false =>
   rw [hw] at hg
   simp only at hg
   rw [if_neg (by simp)]
   obtain ⟨L', s1, s2⟩ := skip_ok h hg.1
   exact vops_ok hT r (i + 1) hi' hg.2 s2 fun st2 L2 a2 w2 k1 k2 k3 => hk st2 L2 a2 w2 k1 (s1.trans k2) k3
theorem VW.region (hT : TabOk P T) {id : Nat} {Q : Exit → St → Prop} (h : vops P T ops ops.toList st (Q .normal)) : VW P (.region id ops false) st Q := by
 intro L a w hr
 refine wp_region ?_
 have := vops_ok (Q := fun e a' w' => ∃ L' st', Stp L L' w w' ∧ Rel L' st' a' w' Free ∧ Q e st') hT ops.toList 0 (by simp) h hr fun st' L' a' w' k s r => ⟨L', st', s, r, k⟩
 rw [List.range_eq_range']
 simpa using this
end
end Go.Proofs.YtoeblmcibheldaaGreatDoor.V
end
section
/- Control flow, the state made plain at the head of a loop, and a function's own law. No condition. -/
namespace Go.Proofs.YtoeblmcibheldaaGreatDoor.V
open Go Go.RowKit
/-- what one state tells, the other tells too -/
def Weak (st st' : St) : Prop := ∀ (L : Lay) (a : Act) (w : World), Rel L st a w Free → ∃ L', Stp L L' w w ∧ Rel L' st' a w Free
theorem Weak.refl (st : St) : Weak st st := fun L a w h => ⟨L, Stp.refl _ _, h⟩
theorem Weak.trans {a b c : St} (h : Weak a b) (k : Weak b c) : Weak a c := fun L x w hr => by
 obtain ⟨L1, s1, r1⟩ := h L x w hr
 obtain ⟨L2, s2, r2⟩ := k L1 x w r1
 exact ⟨L2, s1.trans s2, r2⟩
def capOut (ks : List Nat) : Cap → Bool
 | .adr g _ => !ks.contains g
 | .fadr .. => false
theorem capOut_any {ks : List Nat} {caps : List Cap} (h : caps.any isAdr = false) : caps.any (capOut ks) = false := by
 rw [List.any_eq_false] at h ⊢
 intro c hc
 have := h c hc
 cases c with
 | adr => simp [isAdr] at this
 | fadr => simp [capOut]
def usesOut (ks : List Nat) : PV → Bool
 | .h _ g _ => !ks.contains g
 | .adr g _ => !ks.contains g
 | .fn _ caps => caps.any (capOut ks)
 | _ => false
def keepAt (ks : List Nat) (st : St) (t : Nat) : PV := if ks.contains t && !usesOut ks (st.at t) then st.at t else .dead
def keepGo (ks : List Nat) : Nat → St → St
 | _, [] => []
 | i, pv :: r => (if ks.contains i && !usesOut ks pv then pv else .dead) :: keepGo ks (i + 1) r
def keepS (ks : List Nat) (st : St) : St := keepGo ks 0 st
theorem keepGo_len (ks : List Nat) : ∀ (st : St) (i : Nat), (keepGo ks i st).length = st.length
 | [], _ => rfl
 | pv :: r, i => by simp only [keepGo, List.length_cons, keepGo_len ks r]
theorem keepGo_get (ks : List Nat) : ∀ (st : St) (i t : Nat), (keepGo ks i st)[t]? = (st[t]?).map fun pv => if ks.contains (i + t) && !usesOut ks pv then pv else .dead
 | [], _, t => by simp [keepGo]
 | pv :: r, i, 0 => by simp [keepGo]
 | pv :: r, i, t + 1 => by
  simp only [keepGo, List.getElem?_cons_succ, keepGo_get ks r]
  rw [show i + 1 + t = i + (t + 1) by omega]
theorem keepS_len (ks : List Nat) (st : St) : (keepS ks st).length = st.length := keepGo_len ks st 0
theorem keepS_at (ks : List Nat) (st : St) (t : Nat) : (keepS ks st).at t = keepAt ks st t := by
 unfold keepS St.at keepAt
 rw [List.getD_eq_getElem?_getD, keepGo_get, Nat.zero_add]
 by_cases h : t < st.length
 ·rw [List.getElem?_eq_getElem h]
  have e : st.at t = st[t] := by unfold St.at; rw [List.getD_eq_getElem?_getD, List.getElem?_eq_getElem h]; rfl
  rw [e]; rfl
 ·rw [List.getElem?_eq_none (by omega), St.at_ge (by omega)]
  simp
theorem weak_keep (ks : List Nat) (st : St) : Weak st (keepS ks st) := by
 intro L a w h
 refine ⟨L, Stp.refl _ _, ⟨?_, h.defers, h.zlt, h.flt, h.dj, h.rlt, h.rdj, fun t ht => ?_⟩⟩
 ·rw [h.size, keepS_len]
 ·have ht' : t < st.length := by rwa [keepS_len] at ht
  rw [keepS_at]
  unfold keepAt
  split
  ·rename_i hk
   simp only [Bool.and_eq_true, Bool.not_eq_true'] at hk
   have h1 := h.tmp t ht'
   rcases PV.root_or (st.at t) with ⟨k, s, f, x, hp⟩ | hp
   ·rw [hp] at h1 ⊢; exact h1
   ·rw [PVRep.of hp] at h1 ⊢
    have hpl : ∀ {g : Nat} {p : Path} {s1 : Sh} {cs1 : List Value} {ad1 : Option Addr}, ks.contains g = true → Place L st w g p s1 cs1 ad1 → Place L (keepS ks st) w g p s1 cs1 ad1 := by
     intro g p s1 cs1 ad1 hg ⟨k', s', f', x', e1, e2, e3, e4⟩
     refine ⟨k', s', f', x', ?_, e2, e3, e4⟩
     rw [keepS_at]
     unfold keepAt
     rw [e1]
     have hg' : g ∈ ks := by simpa using hg
     simp [hg', usesOut]
    refine ORep.places (fun _ h => h) (fun _ _ => rfl) (fun agg g p e s1 cs1 ad1 q1 q2 q3 => ?_) (fun g p e s1 cs1 A q1 => ?_) h1
    ·refine ⟨s1, cs1, ad1, hpl ?_ q1, q2, q3⟩
     have := hk.2
     rw [e] at this
     simpa [usesOut] using this
    ·refine ⟨cs1, hpl ?_ q1⟩
     have := hk.2
     rcases e with e | ⟨f', caps, e, hm⟩
     ·rw [e] at this; simpa [usesOut] using this
     ·rw [e] at this
      simp only [usesOut, List.any_eq_false] at this
      have := this _ hm
      simpa [capOut] using this
  ·trivial
def renC (g d : Nat) : Cap → Cap
 | .adr g' p => .adr (if g' = g then d else g') p
 | c => c
def ren (g d : Nat) : PV → PV
 | .h a g' p => .h a (if g' = g then d else g') p
 | .adr g' p => .adr (if g' = g then d else g') p
 | .fn f caps => .fn f (caps.map (renC g d))
 | pv => pv
theorem ren_root {g d : Nat} {pv : PV} (h : pv.isRoot = false) : (ren g d pv).isRoot = false := by cases pv <;> first | rfl | cases h
/-- root g moves to slot d -/
def moveTo (st : St) (g d : Nat) (r : PV) : St := ((st.map (ren g d)).set g .dead).set d r
theorem moveTo_at {st : St} {g d : Nat} {r : PV} (hd : d < st.length) (t : Nat) : (moveTo st g d r).at t = if t = d then r else if t = g then .dead else ren g d (st.at t) := by
 unfold moveTo
 rw [St.at_set, List.length_set, List.length_map]
 by_cases h : t = d
 ·rw [if_pos ⟨h, hd⟩, if_pos h]
 ·rw [if_neg (fun e => h e.1), if_neg h, St.at_set, List.length_map]
  by_cases hg : t = g
  ·rw [if_pos hg]
   by_cases hl : g < st.length
   ·rw [if_pos ⟨hg, hl⟩]
   ·rw [if_neg (fun e => hl e.2), St.at_map (by rfl), hg, St.at_ge (by omega)]; rfl
  ·rw [if_neg (fun e => hg e.1), if_neg hg, St.at_map (by rfl)]
theorem weak_move {st : St} {g d : Nat} {k : RK} {s : Sh} {f : Fl} {x : s.ty} (hg : st.at g = .root k s f x) (hne : g ≠ d) (hdr : (st.at d).isRoot = false) (hdl : d < st.length)
  (hv : ∀ (L : Lay) (w : World) (v0 v : Value), RootAt w k s v0 (L.C g) (L.D g) → ORep L st w (st.at d) v → RootAt w k s v (L.C g) (L.D g)) : Weak st (moveTo st g d (.root k s f x)) := by
 intro L a w h
 let L' : Lay := ⟨L.Z, fun t => if t = d then L.F g else if t = g then Free else L.F t, fun t => if t = d then L.C g else L.C t, fun t => if t = d then L.D g else L.D t⟩
 have hF : ∀ t b, L'.F t b → ∃ t', L.F t' b ∧ (t = d → t' = g) ∧ (t ≠ d → t' = t ∧ t ≠ g) := by
  intro t b hb
  simp only [L'] at hb
  split at hb
  ·rename_i e; exact ⟨g, hb, fun _ => rfl, fun e2 => absurd e e2⟩
  ·rename_i e
   split at hb
   ·exact hb.elim
   ·rename_i e2; exact ⟨t, hb, fun e3 => absurd e3 e, fun _ => ⟨rfl, e2⟩⟩
 have hpl : ∀ {g' : Nat} {p : Path} {s1 : Sh} {cs1 : List Value} {ad1 : Option Addr}, Place L st w g' p s1 cs1 ad1 → Place L' (moveTo st g d (.root k s f x)) w (if g' = g then d else g') p s1 cs1 ad1 := by
  intro g' p s1 cs1 ad1 ⟨k', s', f', x', e1, e2, e3, e4⟩
  by_cases hgg : g' = g
  ·subst hgg
   rw [hg] at e1
   rw [if_pos rfl]
   cases e1
   refine ⟨k, s, f, x, by rw [moveTo_at hdl, if_pos rfl], e2, e3, ?_⟩
   show sub w s (if d = d then L.C g' else _) (if d = d then L.D g' else _) p = _
   rw [if_pos rfl, if_pos rfl]; exact e4
  ·rw [if_neg hgg]
   have hgd : g' ≠ d := fun e => by rw [e] at e1; rw [e1] at hdr; cases hdr
   refine ⟨k', s', f', x', by rw [moveTo_at hdl, if_neg hgd, if_neg hgg, e1]; rfl, e2, e3, ?_⟩
   show sub w s' (if g' = d then _ else L.C g') (if g' = d then _ else L.D g') p = _
   rw [if_neg hgd, if_neg hgd]; exact e4
 refine ⟨L', ⟨rfl, rfl, rfl, Nat.le_refl _, fun _ _ _ => rfl, .of rfl, fun t b hb => .inl (by obtain ⟨t', q, _⟩ := hF t b hb; exact ⟨t', q⟩)⟩, ⟨?_, h.defers, h.zlt, fun t b hb => ?_, fun t t' b hb hb' => ?_, fun b hb => hb.elim, fun t b _ hb => hb, fun t ht => ?_⟩⟩
 ·rw [h.size]; simp [moveTo]
 ·obtain ⟨t', q, _⟩ := hF t b hb; exact h.flt t' b q
 ·obtain ⟨u, q1, q2, q3⟩ := hF t b hb
  obtain ⟨u', q1', q2', q3'⟩ := hF t' b hb'
  have huu := h.dj u u' b q1 q1'
  by_cases e1 : t = d <;> by_cases e2 : t' = d
  ·omega
  ·have := q2 e1; have := q3' e2; omega
  ·have := q3 e1; have := q2' e2; omega
  ·have := q3 e1; have := q3' e2; omega
 ·have ht' : t < st.length := by simpa [moveTo] using ht
  rw [moveTo_at hdl]
  by_cases e1 : t = d
  ·subst e1
   rw [if_pos rfl]
   obtain ⟨r1, B, r2, r3, r4⟩ := h.root hg
   have hC : L'.C t = L.C g := by simp [L']
   have hD : L'.D t = L.D g := by simp [L']
   have hFt : L'.F t = L.F g := by simp [L']
   refine ⟨?_, B, ?_, ?_, ?_⟩
   ·rw [hC, hD]; exact hv L w _ _ r1 (h.orep hdr)
   ·rw [hFt]; exact r2
   ·rw [hD, hFt]; exact r3
   ·rw [hC]; exact r4
  ·rw [if_neg e1]
   by_cases e2 : t = g
   ·rw [if_pos e2]; trivial
   ·rw [if_neg e2]
    have h1 := h.tmp t ht'
    have hC : L'.C t = L.C t := by simp [L', e1]
    have hD : L'.D t = L.D t := by simp [L', e1]
    have hFt : L'.F t = L.F t := by simp [L', e1, e2]
    rcases PV.root_or (st.at t) with ⟨k', s', f', x', hp⟩ | hp
    ·rw [hp] at h1 ⊢
     obtain ⟨q1, B, q2, q3, q4⟩ := h1
     show RRep L' w t k' s' f' x' _
     refine ⟨by rw [hC, hD]; exact q1, B, by rw [hFt]; exact q2, by rw [hD, hFt]; exact q3, by rw [hC]; exact q4⟩
    ·rw [PVRep.of hp] at h1
     rw [PVRep.of (ren_root hp)]
     cases hpv : st.at t with
     | dead => trivial
     | v agg s' x' => rw [hpv] at h1; exact h1
     | emp => rw [hpv] at h1; exact h1
     | fadr s' x' => rw [hpv] at h1; exact h1
     | h agg g' p =>
      rw [hpv] at h1
      obtain ⟨s1, cs1, ad1, q1, q2, q3⟩ := h1
      exact ⟨s1, cs1, ad1, hpl q1, q2, q3⟩
     | adr g' p =>
      rw [hpv] at h1
      obtain ⟨s1, cs1, A, q1, q2⟩ := h1
      exact ⟨s1, cs1, A, hpl q1, q2⟩
     | fn f' caps =>
      rw [hpv] at h1
      obtain ⟨vs, q1, q2, q3⟩ := h1
      refine ⟨vs, q1, by simpa using q2, fun i c u hc hu => ?_⟩
      rw [List.getElem?_map] at hc
      obtain ⟨c0, hc0, rfl⟩ := Option.map_eq_some_iff.1 hc
      have := q3 i c0 u hc0 hu
      cases c0 with
      | adr g' p =>
       obtain ⟨s1, cs1, A, m1, m2⟩ := this
       exact ⟨s1, cs1, A, hpl m1, m2⟩
      | fadr s' x' => exact this
     | root => rw [hpv] at hp; cases hp
theorem weak_emp {st : St} {d : Nat} (hd : st.at d = .emp) (e : TypeId) (s : Sh) : Weak st (st.set d (.root (.val false) (.sl e s) .own [])) := by
 intro L a w h
 have hdl : d < st.length := by
  rcases Nat.lt_or_ge d st.length with h1 | h1
  ·exact h1
  ·rw [St.at_ge h1] at hd; cases hd
 have hv := h.orep (t := d) (by rw [hd]; rfl)
 rw [hd] at hv
 obtain ⟨A, hv⟩ := hv
 have := h.setR (d := d) (by rw [hd]; rfl) (k := .val false) (s := .sl e s) (f := .own) (x := []) (v := a.tmps.getD d undef) (cs := [a.tmps.getD d undef]) (ad := none) (B := Free) (Fd := Free) (R' := Free) ⟨rfl, fun _ => rfl, rfl⟩ (fun _ h => h) (fun A hA => by cases hA) (.inl ⟨A, by rw [hv], rfl⟩) (fun b hb => hb.elim) (fun b hb => hb.elim)
 have e1 : a.put (some d) (a.tmps.getD d undef) = a := by
  have hda : d < a.tmps.size := by rw [h.size]; exact hdl
  unfold Act.put
  simp only
  congr 1
  apply Array.ext_getElem?
  intro i
  rw [Array.getElem?_setIfInBounds]
  split
  ·rename_i hi; subst hi; simp [hda]
  ·rfl
 rw [e1] at this
 refine ⟨L.set d Free [a.tmps.getD d undef] none, ⟨rfl, rfl, rfl, Nat.le_refl _, fun _ _ _ => rfl, .of rfl, fun t b hb => ?_⟩, this⟩
 simp only [Lay.set] at hb
 split at hb
 ·exact hb.elim
 ·exact .inl ⟨t, hb⟩
def homeOne (st : St) (d : Nat) (em : Option (TypeId × Sh)) : St :=
 match st.at d with
 | .h agg g [] => match st.at g with
  | .root (.val agg') s f x => if agg = agg' ∧ g ≠ d then moveTo st g d (.root (.val agg') s f x) else st
  | _ => st
 | .adr g [] => match st.at g with
  | .root (.box t) s f x => if g ≠ d then moveTo st g d (.root (.box t) s f x) else st
  | _ => st
 | .emp => match em with
  | some (e, s) => st.set d (.root (.val false) (.sl e s) .own [])
  | none => st
 | _ => st
theorem weak_home (st : St) (d : Nat) (em : Option (TypeId × Sh)) : Weak st (homeOne st d em) := by
 unfold homeOne
 have hlt : ∀ pv, st.at d = pv → pv ≠ .dead → d < st.length := fun pv e hne => by
  rcases Nat.lt_or_ge d st.length with hl | hl
  ·exact hl
  ·rw [St.at_ge hl] at e; exact absurd e.symm hne
 split
 ·rename_i agg g hd
  split
  ·rename_i agg' s f x hg
   split
   ·rename_i hc
    obtain ⟨rfl, hne⟩ := hc
    refine weak_move hg hne (by rw [hd]; rfl) (hlt _ hd (by simp)) fun L w v0 v h1 h2 => ?_
    rw [hd] at h2
    obtain ⟨s1, cs1, ad1, ⟨k', s', f', x', e1, e2, e3, e4⟩, q2, q3⟩ := h2
    rw [sub_nil] at e4
    obtain ⟨rfl, rfl⟩ := Prod.mk.inj (Option.some.inj e4)
    exact ⟨q2, h1.2.1, h1.2.2⟩
   ·exact Weak.refl _
  ·exact Weak.refl _
 ·rename_i g hd
  split
  ·rename_i t s f x hg
   split
   ·rename_i hne
    refine weak_move hg hne (by rw [hd]; rfl) (hlt _ hd (by simp)) fun L w v0 v h1 h2 => ?_
    rw [hd] at h2
    obtain ⟨s1, cs1, A, ⟨k', s', f', x', e1, e2, e3, e4⟩, q2⟩ := h2
    rw [sub_nil] at e4
    obtain ⟨rfl, e5⟩ := Prod.mk.inj (Option.some.inj e4)
    obtain ⟨b, m1, m2, m3⟩ := h1
    rw [m3] at e5
    obtain rfl := Option.some.inj e5
    exact ⟨b, q2, m2, m3⟩
   ·exact Weak.refl _
  ·exact Weak.refl _
 ·rename_i hd
  split
  ·exact weak_emp hd _ _
  ·exact Weak.refl _
 ·exact Weak.refl _
/-- the state at the head of a loop: the slots that live, each root at home -/
def norm (ks : List (Nat × Option (TypeId × Sh))) (st : St) : St := keepS (ks.map (·.1)) (ks.foldl (fun st k => homeOne st k.1 k.2) st)
theorem weak_norm (ks : List (Nat × Option (TypeId × Sh))) (st : St) : Weak st (norm ks st) := by
 refine Weak.trans ?_ (weak_keep _ _)
 generalize ks = l
 induction l generalizing st with
 | nil => exact Weak.refl _
 | cons k l ih => exact (weak_home st k.1 k.2).trans (ih _)
section
variable {P : Program} {st : St} {Q : Exit → St → Prop}
theorem VW.mono {c : Code} {Q' : Exit → St → Prop} (h : VW P c st Q) (k : ∀ e s, Q e s → Q' e s) : VW P c st Q' := fun L a w hr => wp_mono (h L a w hr) fun e a' w' ⟨L', st', s, r, q⟩ => ⟨L', st', s, r, k _ _ q⟩
theorem VW.weak {c : Code} {st' : St} (hw : Weak st st') (h : VW P c st' Q) : VW P c st Q := fun L a w hr => by
 obtain ⟨L', s', r'⟩ := hw L a w hr
 exact wp_mono (h L' a w r') fun e a' w' ⟨L2, st2, s, r, q⟩ => ⟨L2, st2, s'.trans s, r, q⟩
theorem VW.skip (h : Q .normal st) : VW P .skip st Q := fun L a w hr => wp_skip ⟨L, st, Stp.refl _ _, hr, h⟩
theorem VW.exit {id : Nat} (h : Q (.exit id) st) : VW P (.exit id) st Q := fun L a w hr => wp_exit ⟨L, st, Stp.refl _ _, hr, h⟩
theorem VW.ret (h : Q .ret st) : VW P .ret st Q := fun L a w hr => wp_ret ⟨L, st, Stp.refl _ _, hr, h⟩
/-- what follows -/
def vthen (P : Program) (y : Code) (Q : Exit → St → Prop) : Exit → St → Prop
 | .normal, st => VW P y st Q
 | e, st => Q e st
theorem vthen_n {y : Code} (h : VW P y st Q) : vthen P y Q .normal st := h
theorem VW.seq {x y : Code} (h : VW P x st (vthen P y Q)) : VW P (.seq x y) st Q := fun L a w hr => by
 refine wp_seq (wp_mono (h L a w hr) fun e a' w' ⟨L', st', s, r, q⟩ => ?_)
 cases e with
 | normal => exact wp_mono (q L' a' w' r) fun e2 a2 w2 ⟨L2, st2, s2, r2, q2⟩ => ⟨L2, st2, s.trans s2, r2, q2⟩
 | _ => exact ⟨L', st', s, r, q⟩
theorem VW.cond {c : Operand} {x y : Code} {b : Bool} (hc : ev st c = .v false .bool b) (ht : b = true → VW P x st Q) (hf : b = false → VW P y st Q) : VW P (.cond c x y) st Q := fun L a w hr =>
 wp_cond_split (ev_bool hr hc) (fun e => ht e L a w hr) (fun e => hf e L a w hr)
def vblock (id : Nat) (Q : Exit → St → Prop) : Exit → St → Prop
 | .exit id', st => if id' = id then Q .normal st else Q (.exit id') st
 | e, st => Q e st
theorem VW.block {id : Nat} {c : Code} (h : VW P c st (vblock id Q)) : VW P (.block id c) st Q := fun L a w hr => by
 refine wp_block (wp_mono (h L a w hr) fun e a' w' ⟨L', st', s, r, q⟩ => ?_)
 cases e with
 | exit id' =>
  simp only [vblock] at q
  simp only [Exit.inBlock]
  split
  ·rename_i e; rw [if_pos e] at q; exact ⟨L', st', s, r, q⟩
  ·rename_i e; rw [if_neg e] at q; exact ⟨L', st', s, r, q⟩
 | _ => exact ⟨L', st', s, r, q⟩
def vround {α : Type} (ks : List (Nat × Option (TypeId × Sh))) (head : α → St) (inv : α → Prop) (μ : α → Nat) (Q : Exit → St → Prop) (p : α) : Exit → St → Prop
 | .normal, st => ∃ p', inv p' ∧ norm ks st = head p' ∧ μ p' < μ p
 | e, st => Q e st
theorem VW.loop {α : Type} {c : Code} (ks : List (Nat × Option (TypeId × Sh))) (head : α → St) (inv : α → Prop) (μ : α → Nat) (h0 : ∃ p, inv p ∧ norm ks st = head p) (round : ∀ p, inv p → VW P c (head p) (vround ks head inv μ Q p)) : VW P (.loop c) st Q := by
 have key : ∀ n p, inv p → μ p < n → ∀ L a w, Rel L (head p) a w Free → ∀ L0 w0, Stp L0 L w0 w → Code.rounds P c (fun e a' w' => ∃ L' st', Stp L0 L' w0 w' ∧ Rel L' st' a' w' Free ∧ Q e st') n a w := by
  intro n
  induction n with
  | zero => intro p _ hn; omega
  | succ n ih =>
   intro p hp hn L a w hr L0 w0 hs
   rw [rounds_succ]
   refine wp_mono (round p hp L a w hr) fun e a' w' ⟨L', st', s, r, q⟩ => ?_
   cases e with
   | normal =>
    obtain ⟨p', q1, q2, q3⟩ := q
    obtain ⟨L2, s2, r2⟩ := weak_norm ks st' L' a' w' r
    rw [q2] at r2
    exact ih p' q1 (by omega) L2 a' w' r2 L0 w0 ((hs.trans s).trans s2)
   | _ => exact ⟨L', st', hs.trans s, r, q⟩
 intro L a w hr
 obtain ⟨p, hp, e⟩ := h0
 obtain ⟨L1, s1, r1⟩ := weak_norm ks st L a w hr
 rw [e] at r1
 exact wp_loop_rounds (μ p + 1) (key _ p hp (Nat.lt_succ_self _) L1 a w r1 L w s1)
end
end Go.Proofs.YtoeblmcibheldaaGreatDoor.V
end
section
/- The table of types: checked by running. No condition. -/
namespace Go.Proofs.YtoeblmcibheldaaGreatDoor.V
open Go Go.RowKit
def zB : List Value → List Value → Bool
 | [], [] => true
 | .int k n :: r, .int k' n' :: r' => decide (k = k') && decide (n = n') && zB r r'
 | .bool b :: r, .bool b' :: r' => decide (b = b') && zB r r'
 | .string b :: r, .string b' :: r' => decide (b.size = 0) && decide (b'.size = 0) && zB r r'
 | .slice none 0 0 :: r, .slice none 0 0 :: r' => zB r r'
 | _, _ => false
theorem bytes_empty {b : ByteArray} (h : b.size = 0) : b = ByteArray.empty := by
 obtain ⟨d⟩ := b
 have : d = #[] := Array.eq_empty_of_size_eq_zero h
 subst this; rfl
theorem zB_eq : ∀ (a b : List Value), zB a b = true → a = b := by
 intro a
 induction a with
 | nil => intro b h; cases b with
  | nil => rfl
  | cons => simp [zB] at h
 | cons v r ih =>
  intro b h
  unfold zB at h
  split at h
  ·rename_i e; cases e
  ·rename_i e
   simp only [Bool.and_eq_true, decide_eq_true_eq] at h
   obtain ⟨⟨rfl, rfl⟩, h⟩ := h
   cases e
   rw [ih _ h]
  ·rename_i e
   simp only [Bool.and_eq_true, decide_eq_true_eq] at h
   obtain ⟨rfl, h⟩ := h
   cases e
   rw [ih _ h]
  ·rename_i e
   simp only [Bool.and_eq_true, decide_eq_true_eq] at h
   obtain ⟨⟨h1, h2⟩, h⟩ := h
   cases e
   rw [ih _ h, bytes_empty h1, bytes_empty h2]
  ·rename_i e
   cases e
   rw [ih _ h]
  ·cases h
def fieldB (P : Program) (i : TI) (fs : Array Field) (n : Nat) : Bool :=
 match fs[n]?, i.fs[n]?, fieldAt i.sh n i.nf with
 | some f, some (agg1, s1), some (o, s2) => decide (s1 = s2) && decide (f.offset = o) && (match P.info? f.type with | some fi => decide (fi.size = s1.size) | none => false) && decide (0 < s1.size) && decide (isAggT P f.type = agg1) && (P.underlying f.type).isSome && (agg1 || decide (s1.size = 1))
 | _, _, _ => false
def leafB (P : Program) (f : Field) (s : Sh) (o : Nat) : Bool :=
 decide (f.offset = o) && decide (f.name ≠ "_") && !isAggT P f.type && (match s, P.underlying f.type with
  | .int k, some (.int k') => decide (k = k')
  | .bool, some .bool => true
  | .str, some .string => true
  | _, _ => false)
def flatB (P : Program) : List Field → Sh → Nat → Bool
 | [f], s, o => leafB P f s o
 | f :: g :: r, .pr s b, o => leafB P f s o && flatB P (g :: r) b (o + 1)
 | _, _, _ => false
def tokB (P : Program) (t : Nat) (i : TI) : Bool :=
 (i.agg || !i.sh.isPr) && (match P.info? t with
  | some ti => decide (ti.size = i.sh.size) && decide (ti.bytes = i.bytes) && (match ti.zero with | some z => zB z.cells.toList i.sh.encZ | none => false)
  | none => false) && decide (0 < i.sh.size) && decide (isAggT P t = i.agg) && (P.underlying t).isSome && (i.agg || decide (i.sh.size = 1)) &&
 (!i.agg || (match P.underlying t with | some (.array _ e) => decide (i.nf = 0) && i.sh.plain && (P.info? e).isSome && !i.cmp | some (.struct fs) => decide (0 < i.nf) && decide (fs.size = i.nf) && (List.range i.nf).all (fieldB P i fs) && (!i.cmp || (flatB P fs.toList i.sh 0 && !P.stoodInHeld t && !P.eqGuardType P.depth t)) | _ => false)) &&
 (i.agg || (match i.sh, P.underlying t with
  | .int k, some (.int k') => decide (k = k')
  | .str, some .string => true
  | .bool, some .bool => true
  | .sl e s, some (.slice e') => decide (e = e') && (match P.info? e with
   | some ti => decide (ti.size = s.size) && decide (0 < s.size) && (match ti.zero with | some z => zB z.cells.toList s.encZ | none => false)
   | none => false)
  | _, _ => false))
theorem leafB_ok {P : Program} {f : Field} {s : Sh} {o : Nat} (h : leafB P f s o = true) : f.offset = o ∧ f.name ≠ "_" ∧ isAggT P f.type = false ∧ ((∃ k, s = .int k ∧ P.underlying f.type = some (.int k)) ∨ (s = .bool ∧ P.underlying f.type = some .bool) ∨ (s = .str ∧ P.underlying f.type = some .string)) := by
 simp only [leafB, Bool.and_eq_true, decide_eq_true_eq, Bool.not_eq_true'] at h
 obtain ⟨⟨⟨h1, h2⟩, h3⟩, h4⟩ := h
 refine ⟨h1, h2, h3, ?_⟩
 split at h4
 ·rename_i k k' hu
  simp only [decide_eq_true_eq] at h4
  subst h4
  exact .inl ⟨k, rfl, hu⟩
 ·rename_i hu; exact .inr (.inl ⟨rfl, hu⟩)
 ·rename_i hu; exact .inr (.inr ⟨rfl, hu⟩)
 ·cases h4
theorem flatB_ok {P : Program} : ∀ (fs : List Field) (s : Sh) (o : Nat), flatB P fs s o = true → Flat P fs s o
 | [], s, o, h => by cases s <;> simp [flatB] at h
 | [f], s, o, h => by
  have h' : leafB P f s o = true := by cases s <;> exact h
  have := leafB_ok h'
  cases s <;> exact this
 | f :: g :: r, s, o, h => by
  cases s with
  | pr s b =>
   simp only [flatB, Bool.and_eq_true] at h
   exact ⟨leafB_ok h.1, flatB_ok (g :: r) b (o + 1) h.2⟩
  | unit => simp [flatB] at h
  | int _ => simp [flatB] at h
  | bool => simp [flatB] at h
  | str => simp [flatB] at h
  | sl _ _ => simp [flatB] at h
theorem fieldB_ok {P : Program} {i : TI} {fs : Array Field} {n : Nat} (h : fieldB P i fs n = true) : FieldOk P i fs n := by
 unfold fieldB at h
 split at h
 ·rename_i f agg1 s1 o s2 h1 h2 h3
  simp only [Bool.and_eq_true, decide_eq_true_eq] at h
  obtain ⟨⟨⟨⟨⟨⟨rfl, k1⟩, k2⟩, k3⟩, k4⟩, k5⟩, k6⟩ := h
  split at k2
  ·rename_i fi hfi
   simp only [decide_eq_true_eq] at k2
   refine ⟨f, agg1, s1, o, fi, h1, h2, h3, k1, hfi, k2, k3, k4, k5, fun e => ?_⟩
   subst e; simpa using k6
  ·cases k2
 ·cases h
theorem tokB_ok {P : Program} {t : Nat} {i : TI} (h : tokB P t i = true) : TOk P t i := by
 unfold tokB at h
 simp only [Bool.and_eq_true, decide_eq_true_eq] at h
 obtain ⟨⟨⟨⟨⟨⟨⟨k1, k2⟩, k3⟩, k4⟩, k5⟩, k6⟩, k7⟩, k8⟩ := h
 have sc : i.agg = false → (match i.sh, P.underlying t with
  | .int k, some (.int k') => decide (k = k')
  | .str, some .string => true
  | .bool, some .bool => true
  | .sl e s, some (.slice e') => decide (e = e') && (match P.info? e with
   | some ti => decide (ti.size = s.size) && decide (0 < s.size) && (match ti.zero with | some z => zB z.cells.toList s.encZ | none => false)
   | none => false)
  | _, _ => false) = true := fun e => by rw [e] at k8; simpa using k8
 have st : i.agg = true → (i.nf = 0 ∧ i.cmp = false ∧ i.sh.plain = true ∧ ∃ n e ie, P.underlying t = some (.array n e) ∧ P.info? e = some ie) ∨ (0 < i.nf ∧ ∃ fs, P.underlying t = some (.struct fs) ∧ fs.size = i.nf ∧ (List.range i.nf).all (fieldB P i fs) = true ∧ (i.cmp = true → (flatB P fs.toList i.sh 0 = true ∧ P.stoodInHeld t = false) ∧ P.eqGuardType P.depth t = false)) := fun e => by
  rw [e] at k7
  simp only [Bool.not_true, Bool.false_or] at k7
  split at k7
  ·rename_i n e hu
   simp only [Bool.and_eq_true, decide_eq_true_eq, Bool.not_eq_true'] at k7
   obtain ⟨ie, hie⟩ := Option.isSome_iff_exists.1 k7.1.2
   exact .inl ⟨k7.1.1.1, k7.2, k7.1.1.2, n, e, ie, hu, hie⟩
  ·rename_i fs hu
   simp only [Bool.and_eq_true, decide_eq_true_eq, Bool.or_eq_true, Bool.not_eq_true'] at k7
   refine .inr ⟨k7.1.1.1, fs, hu, k7.1.1.2, k7.1.2, fun hc => ?_⟩
   rcases k7.2 with q | q
   ·rw [hc] at q; cases q
   ·exact q
  ·cases k7
 refine ⟨fun e => ?_, ?_, k3, k4, k5, fun e => ?_, fun e h0 => ?_, fun e h0 => ?_, fun hc e => ?_, fun k hs e => ?_, fun hs e => ?_, fun hs e => ?_, fun e' s hs e => ?_⟩
 ·rw [e] at k1; simpa using k1
 ·split at k2
  ·rename_i ti hti
   simp only [Bool.and_eq_true, decide_eq_true_eq] at k2
   obtain ⟨⟨q1, q2⟩, q3⟩ := k2
   split at q3
   ·rename_i z hz; exact ⟨ti, z, hti, q1, q2, hz, zB_eq _ _ q3⟩
   ·cases q3
  ·cases k2
 ·rw [e] at k6; simpa using k6
 ·rcases st e with ⟨_, _, q⟩ | ⟨q, _⟩
  ·exact q
  ·omega
 ·obtain ⟨fs, u1, u2, u3, _⟩ := ((st e).resolve_left fun q => by omega).2
  exact ⟨fs, u1, u2, fun n hn => fieldB_ok (List.all_eq_true.1 u3 n (List.mem_range.2 hn))⟩
 ·obtain ⟨fs, u1, u2, u3, u4⟩ := ((st e).resolve_left fun q => by rw [hc] at q; cases q.2.1).2
  obtain ⟨⟨q1, q2⟩, q3⟩ := u4 hc
  exact ⟨fs, u1, flatB_ok _ _ _ q1, q2, q3⟩
 ·have := sc e
  rw [hs] at this
  split at this
  all_goals simp_all
 ·have := sc e
  rw [hs] at this
  split at this
  all_goals simp_all
 ·have := sc e
  rw [hs] at this
  split at this
  all_goals simp_all
 ·have := sc e
  rw [hs] at this
  split at this
  ·rename_i q _; cases q
  ·rename_i q _; cases q
  ·rename_i q _; cases q
  ·rename_i e1 s1 e2 q hu
   cases q
   simp only [Bool.and_eq_true, decide_eq_true_eq] at this
   obtain ⟨rfl, q3⟩ := this
   refine ⟨hu, ?_⟩
   split at q3
   ·rename_i ti hti
    simp only [Bool.and_eq_true, decide_eq_true_eq] at q3
    obtain ⟨⟨m1, m2⟩, m3⟩ := q3
    split at m3
    ·rename_i z hz; exact ⟨ti, z, hti, m1, hz, zB_eq _ _ m3, m2⟩
    ·cases m3
   ·cases q3
  ·cases this
theorem tab_ok {P : Program} {T : List (Nat × TI)} (h : T.all (fun q => tokB P q.1 q.2) = true) : TabOk P T := by
 intro t i hi
 have key : ∀ T : List (Nat × TI), tget T t = some i → (t, i) ∈ T := by
  intro T
  induction T with
  | nil => intro h; cases h
  | cons q r ih =>
   intro h
   obtain ⟨n, j⟩ := q
   simp only [tget] at h
   split at h
   ·rename_i e
    obtain rfl := Option.some.inj h
    simp only [beq_iff_eq] at e
    subst e
    exact List.mem_cons_self
   ·exact List.mem_cons_of_mem _ (ih h)
 exact tokB_ok (List.all_eq_true.1 h _ (key T hi))
end Go.Proofs.YtoeblmcibheldaaGreatDoor.V
end
section
/- Words for the walk over values. No condition. -/
namespace Go.Proofs.YtoeblmcibheldaaGreatDoor.V
open Go Go.RowKit
section
variable {P : Program} {T : List (Nat × TI)} {st : St} {Q : Exit → St → Prop}
theorem VW.regl (hT : TabOk P T) {id : Nat} {ops : Array Oper} (h : ∀ K : St → Prop, (∀ s, Q .normal s → K s) → vops P T ops ops.toList st K) : VW P (.region id ops false) st Q :=
 VW.region hT (h _ fun _ h => h)
end
theorem atS (a : PV) (l : List PV) (n : Nat) : St.at (a :: l) (n + 1) = St.at l n := rfl
theorem wrap64 {x : Int} (h : -9223372036854775808 ≤ x) (k : x ≤ 9223372036854775807) : IntKind.i64.wrap x = x := by rw [IntKind.wrap_i64]; omega
theorem emp0 : (#[] : Array Operand).isEmpty = true := rfl
theorem emp1 : (#[] : Array (Nat × Operand)).isEmpty = true := rfl
theorem ps1 : (PStep.l == PStep.l) = true := rfl
theorem ps2 : (PStep.l == PStep.r) = false := rfl
theorem ps3 : (PStep.r == PStep.l) = false := rfl
theorem ps4 : (PStep.r == PStep.r) = true := rfl
theorem ps5 (i j : Nat) : (PStep.el i == PStep.el j) = decide (i = j) := by
 by_cases h : i = j
 ·subst h; simp
 ·simp [h]
end Go.Proofs.YtoeblmcibheldaaGreatDoor.V
end
section
/- Regions that run in any order. No condition. -/
namespace Go.Proofs.YtoeblmcibheldaaGreatDoor.V
open Go Go.RowKit
def ments : PV → List Nat
 | .h _ g _ => [g]
 | .adr g _ => [g]
 | .fn _ caps => caps.filterMap fun | .adr g _ => some g | .fadr .. => none
 | _ => []
section
variable {o : Oper} {st : St} {T : List (Nat × TI)} {rt rt' : St}
theorem look_eq {g : Nat} (h : rt'.at g = rt.at g) (p : Path) : look rt' g p = look rt g p := by unfold look; rw [h]
theorem lenOf_eq {pv : PV} (h : ∀ g ∈ ments pv, rt'.at g = rt.at g) : lenOf rt' pv = lenOf rt pv := by
 cases pv with
 | h agg g p => cases agg <;> simp only [lenOf, look_eq (h g (by simp [ments]))]
 | v agg s x => cases agg <;> cases s <;> rfl
 | _ => rfl
theorem rowOf_eq {e : TypeId} {s : Sh} {pv : PV} (h : ∀ g ∈ ments pv, rt'.at g = rt.at g) : rowOf rt' e s pv = rowOf rt e s pv := by
 cases pv with
 | h agg g p => cases agg <;> simp only [rowOf, look_eq (h g (by simp [ments]))]
 | v agg s x => cases agg <;> rfl
 | _ => rfl
theorem pop_rt (h : ∀ x ∈ o.op.operands.toList, ∀ g ∈ ments (ref st x), rt'.at g = rt.at g) (hr : ∀ t ∈ reads o, rt'.at t = rt.at t) : pop T rt' st o = pop T rt st o := by
 cases ho : o.op with
 | load t x =>
  have hx := h x (by simp [ho, Op.operands])
  unfold pop
  simp only [ho]
  cases hp : ref st x with
  | adr g p => rw [hp] at hx; simp only [look_eq (hx g (by simp [ments]))]
  | _ => rfl
 | fieldAddr t x n =>
  have hx := h x (by simp [ho, Op.operands])
  unfold pop
  simp only [ho]
  cases hp : ref st x with
  | adr g p => rw [hp] at hx; simp only [look_eq (hx g (by simp [ments]))]
  | _ => rfl
 | field t x n =>
  have hx := h x (by simp [ho, Op.operands])
  unfold pop
  simp only [ho]
  cases tget T t with
  | none => rfl
  | some i =>
   simp only
   generalize i.fs[n]? = q
   cases hp : ref st x with
   | h agg g p =>
    rw [hp] at hx
    have e := look_eq (hx g (by simp [ments])) p
    cases agg with
    | true => cases q with
     | none => rfl
     | some ab => obtain ⟨a, b⟩ := ab; simp only [e]
    | false => cases q <;> rfl
   | v agg s x => cases agg <;> cases q <;> rfl
   | _ => cases q <;> rfl
 | indexAddr t x y =>
  have hx := h x (by simp [ho, Op.operands])
  unfold pop
  simp only [ho]
  cases hp : ref st x with
  | h agg g p => rw [hp] at hx; cases agg <;> simp only [look_eq (hx g (by simp [ments]))]
  | v agg s x => cases agg <;> rfl
  | _ => rfl
 | extract x n => cases x with
  | tmp t =>
   unfold pop
   simp only [ho, hr t (mem_reads (by simp [ho, Op.operands]))]
  | _ => unfold pop; simp only [ho]
 | call c =>
  obtain ⟨callee, args, ts⟩ := c
  have hm : ∀ x ∈ args.toList, ∀ g ∈ ments (ref st x), rt'.at g = rt.at g := fun x hx => h x (by simp only [ho, Op.operands, Call.operands]; first | exact hx | (cases callee <;> simp_all))
  cases callee with
  | builtin b => cases b with
   | len =>
    unfold pop
    simp only [ho]
    split
    ·rename_i x t ha ht
     rw [lenOf_eq (hm x (by rw [ha]; simp))]
    ·rfl
   | append =>
    unfold pop
    simp only [ho]
    split
    ·rename_i x y t t' ha ht
     have : ∀ e s, rowOf rt' e s (ref st y) = rowOf rt e s (ref st y) := fun e s => rowOf_eq (hm y (by rw [ha]; simp))
     simp only [this]
    ·rfl
   | _ => unfold pop; simp only [ho]
  | _ => unfold pop; simp only [ho]
 | makeFunc f first caps => cases f <;> (unfold pop; simp only [ho])
 | slice t x lo hi mx => cases mx <;> (unfold pop; simp only [ho])
 | _ => unfold pop; simp only [ho]
theorem lendCap_eq {c : Cap} (h : ∀ g p, c = .adr g p → rt'.at g = rt.at g) : lendCap rt' c = lendCap rt c := by
 cases c with
 | adr g p => simp only [lendCap, look_eq (h g p rfl)]
 | fadr => rfl
theorem lendCaps_eq : ∀ (caps : List Cap), (∀ g p, Cap.adr g p ∈ caps → rt'.at g = rt.at g) → lendCaps rt' caps = lendCaps rt caps
 | [], _ => rfl
 | c :: r, h => by
  simp only [lendCaps]
  rw [lendCap_eq fun g p e => h g p (by rw [e]; exact List.mem_cons_self), lendCaps_eq r fun g p hm => h g p (List.mem_cons_of_mem _ hm)]
theorem ments_fn {f : FuncId} {caps : List Cap} {g : Nat} {p : Path} (h : Cap.adr g p ∈ caps) : g ∈ ments (.fn f caps) := by
 simp only [ments, List.mem_filterMap]
 exact ⟨_, h, rfl⟩
theorem lend_eq {pv : PV} (h : ∀ g ∈ ments pv, rt'.at g = rt.at g) : lend rt' pv = lend rt pv := by
 cases pv with
 | h agg g p => simp only [lend, look_eq (h g (by simp [ments]))]
 | adr g p => simp only [lend]; exact lendCap_eq fun g' p' e => by cases e; exact h _ (by simp [ments])
 | fn f caps => simp only [lend]; rw [lendCaps_eq caps fun g p hm => h g (ments_fn hm)]
 | _ => rfl
theorem lendAll_eq {st' : St} : ∀ (xs : List Operand), (∀ x ∈ xs, ref st' x = ref st x) → (∀ x ∈ xs, ∀ g ∈ ments (ref st x), rt'.at g = rt.at g) → lendAll rt' st' xs = lendAll rt st xs
 | [], _, _ => rfl
 | x :: r, h1, h2 => by
  simp only [lendAll]
  rw [h1 x List.mem_cons_self, lend_eq (h2 x List.mem_cons_self), lendAll_eq r (fun y hy => h1 y (List.mem_cons_of_mem _ hy)) (fun y hy => h2 y (List.mem_cons_of_mem _ hy))]
end
/-! ### the order of the operations -/
def uni (a b : List Nat) : List Nat := a.foldl (fun acc x => if acc.contains x then acc else x :: acc) b
theorem mem_uni {x : Nat} : ∀ {a b : List Nat}, x ∈ uni a b → x ∈ a ∨ x ∈ b
 | [], b, h => .inr h
 | y :: a, b, h => by
  unfold uni at h
  simp only [List.foldl_cons] at h
  rcases mem_uni (a := a) h with h | h
  ·exact .inl (List.mem_cons_of_mem _ h)
  ·split at h
   ·exact .inr h
   ·rcases List.mem_cons.1 h with rfl | h
    ·exact .inl List.mem_cons_self
    ·exact .inr h
def ancStep (acc : List (List Nat)) (es : List Edge) : List Nat := es.foldl (fun l e => if Region.binds .any e then uni (e.on :: acc.getD e.on []) l else l) []
def ancsGo : List Oper → List (List Nat) → List (List Nat)
 | [], acc => acc
 | o :: r, acc => ancsGo r (acc ++ [ancStep acc o.after.toList])
theorem ancStep_mem {acc : List (List Nat)} {m : Nat} : ∀ {es : List Edge}, m ∈ ancStep acc es → ∃ e ∈ es, Region.binds .any e = true ∧ (m = e.on ∨ m ∈ acc.getD e.on []) := by
 intro es
 have key : ∀ (es : List Edge) (l : List Nat), m ∈ es.foldl (fun l e => if Region.binds .any e then uni (e.on :: acc.getD e.on []) l else l) l → m ∈ l ∨ ∃ e ∈ es, Region.binds .any e = true ∧ (m = e.on ∨ m ∈ acc.getD e.on []) := by
  intro es
  induction es with
  | nil => intro l h; exact .inl h
  | cons e r ih =>
   intro l h
   simp only [List.foldl_cons] at h
   rcases ih _ h with h | ⟨e', h1, h2⟩
   ·split at h
    ·rename_i hb
     rcases mem_uni h with h | h
     ·right
      refine ⟨e, List.mem_cons_self, hb, ?_⟩
      rcases List.mem_cons.1 h with h | h
      ·exact .inl h
      ·exact .inr h
     ·exact .inl h
    ·exact .inl h
   ·exact .inr ⟨e', List.mem_cons_of_mem _ h1, h2⟩
 intro h
 rcases key es [] h with h | h
 ·simp at h
 ·exact h
theorem ancsGo_get : ∀ (os : List Oper) (acc : List (List Nat)) (k : Nat), k < acc.length → (ancsGo os acc)[k]? = acc[k]?
 | [], acc, k, _ => rfl
 | o :: r, acc, k, hk => by
  unfold ancsGo
  rw [ancsGo_get r _ k (by simp; omega), List.getElem?_append_left hk]
theorem ancsGo_at : ∀ (os : List Oper) (acc : List (List Nat)) (k : Nat) (o : Oper), os[k]? = some o → ∃ acc', (ancsGo os acc)[acc.length + k]? = some (ancStep acc' o.after.toList) ∧ acc'.length = acc.length + k ∧ ∀ j, j < acc.length + k → acc'.getD j [] = (ancsGo os acc).getD j []
 | [], acc, k, o, h => by simp at h
 | o' :: r, acc, 0, o, h => by
  simp only [List.getElem?_cons_zero, Option.some.injEq] at h
  subst h
  refine ⟨acc, ?_, rfl, fun j hj => ?_⟩
  ·unfold ancsGo
   rw [ancsGo_get r _ _ (by simp)]
   simp
  ·unfold ancsGo
   rw [List.getD_eq_getElem?_getD, List.getD_eq_getElem?_getD, ancsGo_get r _ j (by simp; omega), List.getElem?_append_left (by omega)]
 | o' :: r, acc, k + 1, o, h => by
  simp only [List.getElem?_cons_succ] at h
  obtain ⟨acc', h1, h2, h3⟩ := ancsGo_at r (acc ++ [ancStep acc o'.after.toList]) k o h
  simp only [List.length_append, List.length_cons, List.length_nil, Nat.zero_add] at h1 h2 h3
  refine ⟨acc', ?_, by omega, fun j hj => ?_⟩
  ·unfold ancsGo; rw [show acc.length + (k + 1) = acc.length + 1 + k by omega]; exact h1
  ·unfold ancsGo; exact h3 j (by omega)
def anc (ops : Array Oper) (i : Nat) : List Nat := (ancsGo ops.toList []).getD i []
theorem anc_mem {ops : Array Oper} {i m : Nat} {o : Oper} (ho : ops[i]? = some o) (hlt : ∀ e ∈ o.after.toList, Region.binds .any e = true → e.on < i) (hm : m ∈ anc ops i) : ∃ e ∈ o.after.toList, Region.binds .any e = true ∧ (m = e.on ∨ m ∈ anc ops e.on) := by
 obtain ⟨acc', h1, h2, h3⟩ := ancsGo_at ops.toList [] i o (by simpa using ho)
 simp only [List.length_nil, Nat.zero_add] at h1 h2 h3
 unfold anc at hm
 rw [List.getD_eq_getElem?_getD, h1] at hm
 obtain ⟨e, e1, e2, e3⟩ := ancStep_mem hm
 refine ⟨e, e1, e2, e3.imp id fun q => ?_⟩
 unfold anc
 rw [← h3 e.on (hlt e e1 e2)]
 exact q
/-- the slots that may be written before or behind operation i -/
def unav (ops : Array Oper) (i : Nat) : List Nat := (List.range ops.size).filterMap fun j => if (anc ops i).contains j then none else (ops[j]?).bind (·.dst)
def guardOk (ops : Array Oper) (i : Nat) (o : Oper) : Bool := match o.guard with
 | none => true
 | some (j, _) => match (ops[j]?).bind (·.dst) with
  | none => true
  | some d => !(unav ops i).contains d
def drawOk (ops : Array Oper) : Bool := (List.range ops.size).all fun i => match ops[i]? with
 | none => true
 | some o => o.after.toList.all (fun e => !Region.binds .any e || decide (e.on < i)) && (reads o).all (fun t => !(unav ops i).contains t) && guardOk ops i o &&
  (List.range ops.size).all fun j => decide (j = i) || match o.dst, (ops[j]?).bind (·.dst) with
   | some d, some d' => decide (d ≠ d')
   | _, _ => true
def mentOk (U : List Nat) (st : St) (o : Oper) : Bool := o.op.operands.toList.all fun x => (ments (ref st x)).all fun g => !U.contains g
/-- a call whose result is one -/
def vcallD (P : Program) (f : FuncId) (args : List PV) [K : Hd (PV → Prop)] : Prop := ∃ pv, VC P f args (· = pv) ∧ K.val pv
theorem vcallD_of {P : Program} {f : FuncId} {args : List PV} {K : PV → Prop} {pv : PV} (h : VC P f args (· = pv)) (k : K pv) : @vcallD P f args ⟨K⟩ := ⟨_, h, k⟩
/-- an operation that pop does not know, told by a lemma that asks for the slots it reads alone -/
def vhookD (P : Program) (st : St) (o : Oper) [K : Hd (PV → Prop)] : Prop := ∃ pv, K.val pv ∧ ∀ st', (∀ t ∈ reads o, st'.at t = st.at t) → nonroot st' o.dst = true → Does P o st' (· = setD st' o.dst pv)
theorem vhookD_of {P : Program} {st : St} {o : Oper} {K : PV → Prop} {pv : PV} (h : ∀ st', (∀ t ∈ reads o, st'.at t = st.at t) → nonroot st' o.dst = true → Does P o st' (· = setD st' o.dst pv)) (k : K pv) : @vhookD P st o ⟨K⟩ := ⟨pv, k, h⟩
def vreadD (P : Program) (T : List (Nat × TI)) (st : St) (o : Oper) [K : Hd (PV → Prop)] : Prop :=
 match o.op with
 | .call ⟨.value fop, args, _⟩ => match ref st fop with
  | .fn f caps => match lendCaps st caps, lendAll st st args.toList with
   | some cs, some (ps, b) => @vcallD P f (ps ++ cs.map capPV) ⟨fun pv => okRes (b || caps.any isAdr) pv = true ∧ K.val pv⟩
   | _, _ => False
  | _ => False
 | _ => match pop T st st o with
  | some out => out.c = true ∧ out.cl = true ∧ K.val out.pv
  | none => @vhookD P st o ⟨fun pv => K.val pv⟩
def vdraw (P : Program) (T : List (Nat × TI)) (ops : Array Oper) : Nat → List Oper → St → (St → Prop) → Prop
 | _, [], st, K => K st
 | i, o :: r, st0, K => @vguard st0 ops o ⟨fun run st => match run with
  | true => mentOk (unav ops i) st o = true ∧ nonroot st o.dst = true ∧ @vreadD P T st o ⟨fun pv => vdraw P T ops (i + 1) r (setD st o.dst pv) K⟩
  | false => nonroot st o.dst = true ∧ vdraw P T ops (i + 1) r (setD st o.dst skipPV) K⟩
section
variable {P : Program} {T : List (Nat × TI)} {ops : Array Oper}
/-- operation i, in a state that is as told but for the slots U, leads on -/
def Sure (P : Program) (ops : Array Oper) (o : Oper) (U : List Nat) (st : St) (pv : PV) : Prop :=
 ∀ (st' : St), (∀ t, t ∉ U → st'.at t = st.at t) → nonroot st' o.dst = true → ∀ (L : Lay) (a : Act) (w : World) (next : Act → World → Prop) (Q : Exit → Act → World → Prop), Rel L st' a w Free →
  (∀ L' a' w', Stp L L' w w' → Rel L' (setD st' o.dst pv) a' w' Free → next a' w') →
  if Region.wanted o (yielded ops a.tmps) then o.wp P a w next Q ∨ (o.asks P a w ∧ LetsOut Q) else next (a.put o.dst undef) w
inductive Tr (P : Program) (ops : Array Oper) : Nat → List Oper → St → St → Prop
 | nil {i : Nat} {st : St} : Tr P ops i [] st st
 | step {i : Nat} {o : Oper} {r : List Oper} {st F : St} {pv : PV} : Sure P ops o (unav ops i) st pv → nonroot st o.dst = true → Tr P ops (i + 1) r (setD st o.dst pv) F → Tr P ops i (o :: r) st F
theorem vdraw_tr (hT : TabOk P T) (hD : drawOk ops = true) {K : St → Prop} : ∀ (os : List Oper) (i : Nat), ops.toList.drop i = os → ∀ {st : St}, vdraw P T ops i os st K → ∃ F, Tr P ops i os st F ∧ K F
 | [], i, hi, st, hv => ⟨st, .nil, hv⟩
 | o :: r, i, hi, st, hv => by
  have ho : ops[i]? = some o := by
   have : (ops.toList.drop i)[0]? = some o := by rw [hi]; rfl
   rw [List.getElem?_drop] at this
   simpa using this
  have hi' : ops.toList.drop (i + 1) = r := by rw [← List.drop_drop, hi]; rfl
  have hlt : i < ops.size := (Array.getElem?_eq_some_iff.1 ho).1
  have hd := List.all_eq_true.1 hD i (List.mem_range.2 hlt)
  rw [ho] at hd
  simp only [Bool.and_eq_true] at hd
  obtain ⟨⟨⟨_, hreads⟩, hguard⟩, _⟩ := hd
  have hreads : ∀ t ∈ reads o, t ∉ unav ops i := fun t ht => by
   have := List.all_eq_true.1 hreads t ht
   simpa using this
  have hgd : ∀ (st' : St), (∀ t, t ∉ unav ops i → st'.at t = st.at t) → ∀ (j : Nat) (want : Bool) (d : Nat), o.guard = some (j, want) → (ops[j]?).bind (·.dst) = some d → st'.at d = st.at d := fun st' hst j want d hg hd => hst d (by
   unfold guardOk at hguard
   rw [hg] at hguard
   simp only [hd] at hguard
   simpa using hguard)
  -- it is run
  have run : (∀ (st' : St) (L : Lay) (a : Act) (w : World), (∀ t, t ∉ unav ops i → st'.at t = st.at t) → Rel L st' a w Free → Region.wanted o (yielded ops a.tmps) = true) →
    (mentOk (unav ops i) st o = true ∧ nonroot st o.dst = true ∧ @vreadD P T st o ⟨fun pv => vdraw P T ops (i + 1) r (setD st o.dst pv) K⟩) → ∃ F, Tr P ops i (o :: r) st F ∧ K F := by
   rintro hw ⟨hm, hn, hr⟩
   have hment : ∀ x ∈ o.op.operands.toList, ∀ g ∈ ments (ref st x), g ∉ unav ops i := fun x hx g hg => by
    have := List.all_eq_true.1 (List.all_eq_true.1 hm x hx) g hg
    simpa using this
   have fin : ∀ pv, (∀ st', (∀ t, t ∉ unav ops i → st'.at t = st.at t) → nonroot st' o.dst = true → Does P o st' (· = setD st' o.dst pv)) → vdraw P T ops (i + 1) r (setD st o.dst pv) K → ∃ F, Tr P ops i (o :: r) st F ∧ K F := by
    intro pv hdo hv'
    obtain ⟨F, f1, f2⟩ := vdraw_tr hT hD r (i + 1) hi' hv'
    refine ⟨F, .step (fun st' h1 h2 L a w next Q hrel hk => ?_) hn f1, f2⟩
    rw [if_pos (hw st' L a w h1 hrel)]
    exact .inl (hdo st' h1 h2 L a w next Q hrel fun st2 L' a' w' e s r' => by subst e; exact hk L' a' w' s r')
   unfold vreadD at hr
   split at hr
   ·rename_i fop args ts hop
    split at hr
    ·rename_i f caps hf
     split at hr
     ·rename_i cs ps b hcs hps
      obtain ⟨pv, hvc, hok, hv'⟩ := hr
      refine fin pv (fun st' h1 h2 => ?_) hv'
      have hargs : ∀ x ∈ args.toList, x ∈ o.op.operands.toList := fun x hx => by simp [hop, Op.operands, Call.operands]; exact .inr (by simpa using hx)
      have hfop : fop ∈ o.op.operands.toList := by simp [hop, Op.operands, Call.operands]
      have hag : ∀ t ∈ reads o, st'.at t = st.at t := fun t ht => h1 t (hreads t ht)
      have hf' : ref st' fop = .fn f caps := by rw [(ref_eq hag hfop).1, hf]
      have hcs' : lendCaps st' caps = some cs := by
       rw [lendCaps_eq caps fun g p hmem => h1 g (hment fop hfop g (by rw [hf]; exact ments_fn hmem)), hcs]
      have hps' : lendAll st' st' args.toList = some (ps, b) := by
       rw [lendAll_eq args.toList (fun x hx => (ref_eq hag (hargs x hx)).1) (fun x hx g hg => h1 g (hment x (hargs x hx) g hg)), hps]
      intro L a w next Q hrel hk
      exact does_call (fun _ _ _ _ _ h => h) hop hf' hcs' hps' hvc h2 (fun pv' e => by subst e; exact hok) L a w next Q hrel fun st2 L' a' w' ⟨pv', e1, e2⟩ s r' => by
       subst e1
       exact hk st2 L' a' w' e2 s r'
     ·exact hr.elim
    ·exact hr.elim
   ·split at hr
    ·rename_i out hp
     obtain ⟨hc, hcl, hv'⟩ := hr
     refine fin out.pv (fun st' h1 h2 => ?_) hv'
     have hag : ∀ t ∈ reads o, st'.at t = st.at t := fun t ht => h1 t (hreads t ht)
     have h3 := pop_loc hp hcl hag
     have h4 : pop T st' st' o = some ⟨out.c, true, st', out.pv⟩ := by
      rw [pop_rt (rt := st) (rt' := st') (fun x hx g hg => h1 g (hment x hx g (by rwa [(ref_eq hag hx).1] at hg))) hag]
      exact h3
     exact does_pop hT (fun _ _ _ _ _ h => h) h4 hc h2
    ·obtain ⟨pv, hv', hdo⟩ := hr
     exact fin pv (fun st' h1 h2 => hdo st' (fun t ht => h1 t (hreads t ht)) h2) hv'
  have skip : (∀ (st' : St) (L : Lay) (a : Act) (w : World), (∀ t, t ∉ unav ops i → st'.at t = st.at t) → Rel L st' a w Free → Region.wanted o (yielded ops a.tmps) = false) →
    (nonroot st o.dst = true ∧ vdraw P T ops (i + 1) r (setD st o.dst skipPV) K) → ∃ F, Tr P ops i (o :: r) st F ∧ K F := by
   rintro hw ⟨hn, hv'⟩
   obtain ⟨F, f1, f2⟩ := vdraw_tr hT hD r (i + 1) hi' hv'
   refine ⟨F, .step (fun st' h1 h2 L a w next Q hrel hk => ?_) hn f1, f2⟩
   rw [if_neg (by rw [hw st' L a w h1 hrel]; simp)]
   obtain ⟨L', s1, s2⟩ := skip_ok hrel h2
   exact hk L' _ w s1 s2
  unfold vdraw at hv
  obtain ⟨rn, h1, h2⟩ := vguard_spec hv
  cases rn with
  | true => exact run (fun st' L a w hag hrel => h2 st' L a w _ (hgd st' hag) hrel) h1
  | false => exact skip (fun st' L a w hag hrel => h2 st' L a w _ (hgd st' hag) hrel) h1
end
end Go.Proofs.YtoeblmcibheldaaGreatDoor.V
end
section
/- Regions that run in any order: the law. No condition. -/
namespace Go.Proofs.YtoeblmcibheldaaGreatDoor.V
open Go Go.RowKit
theorem setD_len (st : St) (d : Option Tmp) (pv : PV) : (setD st d pv).length = st.length := by cases d <;> simp [setD]
theorem setD_at {st : St} {d : Option Tmp} {pv : PV} {t : Nat} (h : d ≠ some t) : (setD st d pv).at t = st.at t := by
 cases d with
 | none => rfl
 | some d => simp only [setD, St.at_set]; rw [if_neg (fun e => h (by rw [e.1]))]
theorem setD_self {st st' : St} {d : Nat} {pv : PV} (h : st.length = st'.length) (h2 : st.at d = st'.at d ∨ True) : (setD st (some d) pv).at d = (if d < st.length then pv else st.at d) := by
 simp only [setD, St.at_set]
 simp
section
variable {P : Program} {T : List (Nat × TI)} {ops : Array Oper}
theorem tr_facts : ∀ {i : Nat} {os : List Oper} {st F : St}, Tr P ops i os st F → F.length = st.length ∧ (∀ t, (∀ o ∈ os, o.dst ≠ some t) → F.at t = st.at t) ∧
  ∀ (k : Nat) (o : Oper), os[k]? = some o → ∃ s pv, Sure P ops o (unav ops (i + k)) s pv ∧ nonroot s o.dst = true ∧ s.length = st.length ∧ (∀ t, (∀ (j : Nat) (o' : Oper), j < k → os[j]? = some o' → o'.dst ≠ some t) → s.at t = st.at t) ∧
   ∀ t, (∀ (j : Nat) (o' : Oper), k < j → os[j]? = some o' → o'.dst ≠ some t) → (setD s o.dst pv).at t = F.at t := by
 intro i os st F h
 induction h with
 | nil => exact ⟨rfl, fun _ _ => rfl, fun k o hk => by simp at hk⟩
 | @step i o r st F pv hs hn ht ih =>
  obtain ⟨l1, l2, l3⟩ := ih
  refine ⟨by rw [l1, setD_len], fun t htt => ?_, fun k o' hk => ?_⟩
  ·rw [l2 t fun o' ho' => htt o' (List.mem_cons_of_mem _ ho'), setD_at (htt o List.mem_cons_self)]
  ·cases k with
   | zero =>
    simp only [List.getElem?_cons_zero, Option.some.injEq] at hk
    subst hk
    refine ⟨st, pv, hs, hn, rfl, fun _ _ => rfl, fun t htt => ?_⟩
    rw [l2 t fun o' ho' => ?_]
    obtain ⟨j, hj⟩ := List.mem_iff_getElem?.1 ho'
    exact htt (j + 1) o' (by omega) (by simpa using hj)
   | succ k =>
    simp only [List.getElem?_cons_succ] at hk
    obtain ⟨s, pv', q1, q2, q3, q4, q5⟩ := l3 k o' hk
    refine ⟨s, pv', by rw [show i + (k + 1) = i + 1 + k by omega]; exact q1, q2, by rw [q3, setD_len], fun t htt => ?_, fun t htt => ?_⟩
    ·rw [q4 t fun j o2 hj ho2 => htt (j + 1) o2 (by omega) (by simpa using ho2), setD_at (htt 0 o (by omega) (by simp))]
    ·exact q5 t fun j o2 hj ho2 => htt (j + 1) o2 (by omega) (by simpa using ho2)
/-! ### counting -/
def cntU : Nat → (Nat → Bool) → Nat
 | 0, _ => 0
 | n + 1, f => cntU n f + if f n = true then 1 else 0
theorem cntU_flip : ∀ (n : Nat) {f g : Nat → Bool} {i : Nat}, i < n → f i = true → g i = false → (∀ j, j ≠ i → g j = f j) → cntU n g + 1 = cntU n f
 | 0, _, _, _, h, _, _, _ => by omega
 | n + 1, f, g, i, h, h1, h2, h3 => by
  simp only [cntU]
  by_cases e : i = n
  ·subst e
   have : cntU i g = cntU i f := by
    have key : ∀ m, m ≤ i → cntU m g = cntU m f := by
     intro m
     induction m with
     | zero => intro _; rfl
     | succ m ih => intro hm; simp only [cntU]; rw [ih (by omega), h3 m (by omega)]
    exact key i (Nat.le_refl _)
   rw [this, h1, h2]; simp
  ·have := cntU_flip n (f := f) (g := g) (i := i) (by omega) h1 h2 h3
   rw [h3 n (by omega)]
   omega
theorem cntU_zero : ∀ (n : Nat) {f : Nat → Bool}, cntU n f = 0 → ∀ j, j < n → f j = false
 | 0, _, _, j, hj => by omega
 | n + 1, f, h, j, hj => by
  simp only [cntU] at h
  by_cases e : j = n
  ·subst e
   cases hf : f j with
   | false => rfl
   | true => rw [hf] at h; simp at h
  ·exact cntU_zero n (by omega) j (by omega)
theorem cntU_all (n : Nat) : cntU n (fun _ => true) = n := by
 induction n with
 | zero => rfl
 | succ n ih => simp only [cntU, ih]; simp
structure Inv (P : Program) (ops : Array Oper) (st F : St) (listed : Array Bool) (st' : St) : Prop where
 size : listed.size = ops.size
 closed : ∀ (i : Nat) (o : Oper), ops[i]? = some o → listed.getD i false = true → ∀ e ∈ o.after.toList, Region.binds .any e = true → listed.getD e.on false = true
 len : st'.length = st.length
 old : ∀ t, (∀ (j : Nat) (o : Oper), ops[j]? = some o → listed.getD j false = true → o.dst ≠ some t) → st'.at t = st.at t
 new : ∀ (j : Nat) (o : Oper) (t : Nat), ops[j]? = some o → listed.getD j false = true → o.dst = some t → st'.at t = F.at t
theorem drawOk_spec (hD : drawOk ops = true) {i : Nat} {o : Oper} (ho : ops[i]? = some o) : (∀ e ∈ o.after.toList, Region.binds .any e = true → e.on < i) ∧ ∀ (j : Nat) (o' : Oper) (d : Nat), ops[j]? = some o' → j ≠ i → o.dst = some d → o'.dst ≠ some d := by
 have hlt : i < ops.size := (Array.getElem?_eq_some_iff.1 ho).1
 have hd := List.all_eq_true.1 hD i (List.mem_range.2 hlt)
 rw [ho] at hd
 simp only [Bool.and_eq_true] at hd
 obtain ⟨⟨⟨h1, _⟩, _⟩, h2⟩ := hd
 refine ⟨fun e he hb => ?_, fun j o' d ho' hj hdst hdst' => ?_⟩
 ·have := List.all_eq_true.1 h1 e he
  simpa [hb] using this
 ·have hj' : j < ops.size := (Array.getElem?_eq_some_iff.1 ho').1
  have := List.all_eq_true.1 h2 j (List.mem_range.2 hj')
  rw [ho'] at this
  simp [hj, hdst, hdst'] at this
theorem anc_listed (hD : drawOk ops = true) {listed : Array Bool} (hc : ∀ (i : Nat) (o : Oper), ops[i]? = some o → listed.getD i false = true → ∀ e ∈ o.after.toList, Region.binds .any e = true → listed.getD e.on false = true) :
  ∀ (i : Nat) (o : Oper), ops[i]? = some o → (∀ e ∈ o.after.toList, Region.binds .any e = true → listed.getD e.on false = true) → ∀ m ∈ anc ops i, m < i ∧ listed.getD m false = true := by
 intro i
 induction i using Nat.strongRecOn with
 | _ i ih =>
  intro o ho hl m hm
  have hlt := (drawOk_spec hD ho).1
  obtain ⟨e, e1, e2, e3⟩ := anc_mem ho hlt hm
  have h1 := hlt e e1 e2
  rcases e3 with rfl | e3
  ·exact ⟨h1, hl e e1 e2⟩
  ·have hi : i < ops.size := (Array.getElem?_eq_some_iff.1 ho).1
   have ho2 : ops[e.on]? = some ops[e.on] := Array.getElem?_eq_getElem (by omega)
   obtain ⟨q1, q2⟩ := ih e.on h1 _ ho2 (hc e.on _ ho2 (hl e e1 e2)) m e3
   exact ⟨by omega, q2⟩
theorem any_ok (hD : drawOk ops = true) {st F : St} (htr : Tr P ops 0 ops.toList st F) {Q : Exit → Act → World → Prop} {L0 : Lay} {w0 : World} (hQ : ∀ L a w, Stp L0 L w0 w → Rel L F a w Free → Q .normal a w) :
  ∀ (fuel : Nat) (listed : Array Bool) (L : Lay) (st' : St) (a : Act) (w : World), Inv P ops st F listed st' → cntU ops.size (fun i => !listed.getD i false) = fuel → Rel L st' a w Free → Stp L0 L w0 w → wpAny P .any ops Q fuel listed a w := by
 obtain ⟨hFl, hFo, hfacts⟩ := tr_facts htr
 have hgd : ∀ {listed : Array Bool} {i : Nat}, listed.size = ops.size → i < ops.size → listed.getD i true = listed.getD i false := by
  intro listed i hs hi
  have : i < listed.size := by omega
  simp [Array.getD, this]
 have hready : ∀ {listed : Array Bool} {i : Nat}, listed.size = ops.size → (i ∈ Region.ready .any ops listed ↔ ∃ o, ops[i]? = some o ∧ listed.getD i false = false ∧ ∀ e ∈ o.after.toList, Region.binds .any e = true → listed.getD e.on false = true) := by
  intro listed i hs
  unfold Region.ready
  rw [List.mem_filter, List.mem_range]
  constructor
  ·rintro ⟨hi, h2⟩
   have ho : ops[i]? = some ops[i] := Array.getElem?_eq_getElem hi
   rw [ho, hgd hs hi] at h2
   simp only [Bool.and_eq_true, Bool.not_eq_true', Option.map_some, Option.getD_some] at h2
   refine ⟨_, ho, h2.1, fun e he hb => ?_⟩
   have := (Array.all_eq_true_iff_forall_mem.1 h2.2) e (by simpa using he)
   simpa [hb] using this
  ·rintro ⟨o, ho, h1, h2⟩
   have hi : i < ops.size := (Array.getElem?_eq_some_iff.1 ho).1
   refine ⟨hi, ?_⟩
   rw [ho, hgd hs hi, h1]
   simp only [Bool.not_false, Bool.true_and, Option.map_some, Option.getD_some]
   refine Array.all_eq_true_iff_forall_mem.2 fun e he => ?_
   by_cases hb : Region.binds .any e = true
   ·rw [h2 e (by simpa using he) hb]; simp
   ·simp [hb]
 have fin : ∀ (listed : Array Bool) (L : Lay) (st' : St) (a : Act) (w : World), Inv P ops st F listed st' → (∀ j, j < ops.size → listed.getD j false = true) → Rel L st' a w Free → Stp L0 L w0 w → Q .normal a w := by
  intro listed L st' a w hI hall hrel hs
  have hat : ∀ t, st'.at t = F.at t := by
   intro t
   by_cases hex : ∃ (j : Nat) (o : Oper), ops[j]? = some o ∧ o.dst = some t
   ·obtain ⟨j, o, h1, h2⟩ := hex
    exact hI.new j o t h1 (hall j (Array.getElem?_eq_some_iff.1 h1).1) h2
   ·rw [hI.old t fun j o h1 _ h2 => hex ⟨j, o, h1, h2⟩, hFo t fun o ho h2 => ?_]
    obtain ⟨j, hj⟩ := List.mem_iff_getElem?.1 ho
    exact hex ⟨j, o, by simpa using hj, h2⟩
  have e : st' = F := by
   apply List.ext_getElem
   ·rw [hI.len, hFl]
   ·intro t h1 h2
    have := hat t
    unfold St.at at this
    rw [List.getD_eq_getElem?_getD, List.getD_eq_getElem?_getD, List.getElem?_eq_getElem h1, List.getElem?_eq_getElem h2] at this
    exact this
  subst e
  exact hQ L a w hs hrel
 intro fuel
 induction fuel with
 | zero =>
  intro listed L st' a w hI hc hrel hs
  have hall : ∀ j, j < ops.size → listed.getD j false = true := fun j hj => by simpa using cntU_zero _ hc j hj
  refine ⟨?_, fin listed L st' a w hI hall hrel hs⟩
  rw [List.eq_nil_iff_forall_not_mem]
  intro i hi
  obtain ⟨o, ho, h1, _⟩ := (hready hI.size).1 hi
  rw [hall i (Array.getElem?_eq_some_iff.1 ho).1] at h1
  cases h1
 | succ fuel ih =>
  intro listed L st' a w hI hc hrel hs
  refine ⟨fun hr => ?_, fun i hi => ?_⟩
  ·refine fin listed L st' a w hI (fun j => ?_) hrel hs
   induction j using Nat.strongRecOn with
   | _ j ihj =>
    intro hj
    cases hl : listed.getD j false with
    | true => rfl
    | false =>
     have ho : ops[j]? = some ops[j] := Array.getElem?_eq_getElem hj
     have : j ∈ Region.ready .any ops listed := (hready hI.size).2 ⟨_, ho, hl, fun e he hb => by
      have := (drawOk_spec hD ho).1 e he hb
      exact ihj e.on this (by omega)⟩
     rw [hr] at this
     cases this
  ·obtain ⟨o, ho, h1, h2⟩ := (hready hI.size).1 hi
   have hi' : i < ops.size := (Array.getElem?_eq_some_iff.1 ho).1
   obtain ⟨s, pv, f1, f2, f3, f4, f5⟩ := hfacts i o (by simpa using ho)
   rw [Nat.zero_add] at f1
   have hsp := drawOk_spec hD ho
   have hanc := anc_listed hD hI.closed i o ho h2
   have hag : ∀ t, t ∉ unav ops i → st'.at t = s.at t := by
    intro t ht
    by_cases hex : ∃ (j : Nat) (o' : Oper), ops[j]? = some o' ∧ o'.dst = some t
    ·obtain ⟨j, o', g1, g2⟩ := hex
     have hj : j < ops.size := (Array.getElem?_eq_some_iff.1 g1).1
     have hja : j ∈ anc ops i := by
      refine Classical.byContradiction fun hn => ht ?_
      refine List.mem_filterMap.2 ⟨j, List.mem_range.2 hj, ?_⟩
      have hn' : (anc ops i).contains j = false := by simpa using hn
      rw [hn', g1]
      simpa using g2
     obtain ⟨q1, q2⟩ := hanc j hja
     have hspj := drawOk_spec hD g1
     rw [hI.new j o' t g1 q2 g2, ← f5 t fun k o2 hk ho2 => hspj.2 k o2 t (by simpa using ho2) (by omega) g2]
     exact setD_at (hspj.2 i o t ho (by omega) g2)
    ·rw [hI.old t fun j o' g1 _ g2 => hex ⟨j, o', g1, g2⟩, f4 t fun j o' _ g1 g2 => hex ⟨j, o', by simpa using g1, g2⟩]
   have hdst : ∀ d, o.dst = some d → st'.at d = st.at d ∧ s.at d = st.at d := fun d hd => ⟨hI.old d fun j o' g1 g2 g3 => by
    by_cases e : j = i
    ·subst e; rw [h1] at g2; cases g2
    ·exact hsp.2 j o' d g1 e hd g3, f4 d fun j o' hj g1 => hsp.2 j o' d (by simpa using g1) (by omega) hd⟩
   have hnr : nonroot st' o.dst = true := by
    cases hd : o.dst with
    | none => rfl
    | some d =>
     rw [hd] at f2
     obtain ⟨q1, q2⟩ := hdst d hd
     simp only [nonroot] at f2 ⊢
     rw [q1, ← q2]; exact f2
   have hset : ∀ k, (listed.setIfInBounds i true).getD k false = if k = i then true else listed.getD k false := by
    intro k
    have hil : i < listed.size := by rw [hI.size]; exact hi'
    simp only [Array.getD_eq_getD_getElem?, Array.getElem?_setIfInBounds]
    by_cases e : i = k
    ·subst e; simp [hil]
    ·have e' : ¬ k = i := fun h => e h.symm
     simp [e, e']
   have hw := f1 st' hag hnr L a w (wpAny P .any ops Q fuel (listed.setIfInBounds i true)) Q hrel fun L' a' w' hs' hr' => ?_
   ·unfold wpOp
    rw [ho]
    exact hw
   ·refine ih (listed.setIfInBounds i true) L' _ a' w' ⟨by rw [Array.size_setIfInBounds, hI.size], fun k o' hk hl e he hb => ?_, by rw [setD_len, hI.len], fun t ht => ?_, fun j o' t hj hl hd => ?_⟩ ?_ hr' (hs.trans hs')
    ·rw [hset] at hl ⊢
     by_cases e1 : k = i
     ·subst e1
      rw [ho] at hk
      obtain rfl := Option.some.inj hk
      rw [h2 e he hb]; simp
     ·rw [if_neg e1] at hl
      rw [hI.closed k o' hk hl e he hb]; simp
    ·have hne : o.dst ≠ some t := ht i o ho (by rw [hset, if_pos rfl])
     rw [setD_at hne]
     exact hI.old t fun j o' g1 g2 => ht j o' g1 (by rw [hset, g2]; simp)
    ·by_cases e1 : j = i
     ·subst e1
      rw [ho] at hj
      obtain rfl := Option.some.inj hj
      rw [← f5 t fun k o2 hk ho2 => hsp.2 k o2 t (by simpa using ho2) (by omega) hd]
      obtain ⟨q1, q2⟩ := hdst t hd
      rw [hd, setD_self (st' := st) hI.len (.inr trivial), setD_self (st' := st) f3 (.inr trivial), hI.len, f3, q1, q2]
     ·rw [hset, if_neg e1] at hl
      rw [setD_at (hsp.2 j o' t hj e1 · hd)]
      exact hI.new j o' t hj hl hd
    ·have := cntU_flip ops.size (f := fun k => !listed.getD k false) (g := fun k => !(listed.setIfInBounds i true).getD k false) hi' (by simp only [h1]; rfl) (by simp only [hset]; simp) (fun j hj => by simp only [hset, if_neg hj])
     omega
theorem VW.draw (hT : TabOk P T) (hm : P.follows .mixedOrders = true) (hD : drawOk ops = true) {id : Nat} {st : St} {Q : Exit → St → Prop} (h : vdraw P T ops 0 ops.toList st (Q .normal)) : VW P (.region id ops true) st Q := by
 intro L a w hr
 obtain ⟨F, htr, hF⟩ := vdraw_tr hT hD ops.toList 0 (by simp) h
 refine wp_region_any hm ?_
 have hx : Ext w { w with drawn := w.drawn + 1 } := Ext.drew w
 refine any_ok hD htr (L0 := L) (w0 := w) (fun L' a' w' s r => ⟨L', F, s, r, hF⟩) ops.size _ L st a _ ⟨by simp, fun i o ho hl => ?_, rfl, fun _ _ => rfl, fun j o t hj hl => ?_⟩ ?_ (hr.grow hx) (Stp.ext hx)
 ·have hi : i < ops.size := (Array.getElem?_eq_some_iff.1 ho).1
  simp [Array.getD, hi] at hl
 ·have hi : j < ops.size := (Array.getElem?_eq_some_iff.1 hj).1
  simp [Array.getD, hi] at hl
 ·have : ∀ n, n ≤ ops.size → cntU n (fun i => !(Array.replicate ops.size false).getD i false) = n := by
   intro n
   induction n with
   | zero => intro _; rfl
   | succ n ih =>
    intro hn
    simp only [cntU]
    rw [ih (by omega)]
    have : n < ops.size := by omega
    simp [Array.getD, this]
  exact this ops.size (Nat.le_refl _)
theorem VW.drawl (hT : TabOk P T) (hm : P.follows .mixedOrders = true) {id : Nat} {st : St} {Q : Exit → St → Prop} (hD : drawOk ops = true) (h : ∀ K : St → Prop, (∀ s, Q .normal s → K s) → vdraw P T ops 0 ops.toList st K) : VW P (.region id ops true) st Q :=
 VW.draw hT hm hD (h _ fun _ h => h)
end
end Go.Proofs.YtoeblmcibheldaaGreatDoor.V
end
section
/- A function's own law. No condition. -/
namespace Go.Proofs.YtoeblmcibheldaaGreatDoor.V
open Go Go.RowKit
/-- a result's value, as the state tells it -/
def rpv (T : List (Nat × TI)) (st : St) (rv : ResultVar) (agg : Bool) (s : Sh) : PV :=
 match rv with
 | .tmp t => ref st (.tmp t)
 | .cell b ty => match tget T ty with
  | some i => if i.agg = agg ∧ i.sh = s then match ref st (.tmp b) with
   | .adr g p => match look st g p with
    | some ⟨s', f, x⟩ => if s' = i.sh then loaded i.agg g p s' f x else .dead
    | none => .dead
   | .fadr s' x => if s' = i.sh then .v i.agg s' x else .dead
   | _ => .dead else .dead
  | none => .dead
/-- results, moved out: variable, struct or one cell, shape -/
def vgrabs (T : List (Nat × TI)) (st : St) : List (ResultVar × Bool × Sh) → Option (List Bool × ((s : Sh) × Fl × s.ty))
 | [] => some ([], ⟨.unit, .fz, ()⟩)
 | [(t, agg, s)] => match grab st agg s (rpv T st t agg s) with
  | some (f, x, _) => some ([agg], ⟨s, f, x⟩)
  | none => none
 | (t, agg, s) :: r => match grab st agg s (rpv T st t agg s) with
  | some (f, x, st') => match vgrabs T st' r with
   | some (aggs, ⟨s', f', x'⟩) => some (agg :: aggs, ⟨.pr s s', .pr f f', (x, x')⟩)
   | none => none
  | none => none
def vret (T : List (Nat × TI)) (st : St) : List (ResultVar × Bool × Sh) → Option PV
 | [(t, agg, s)] => match grab st agg s (rpv T st t agg s) with
  | some (f, x, _) => if s.plain || Fl.allfz s f then some (.v agg s x) else if agg || s.isSl then some (.root (.val agg) s f x) else none
  | none => none
 | l => match vgrabs T st l with
  | some (aggs, ⟨s, f, x⟩) => if tupOk aggs s then some (.root (.tup aggs) s f x) else none
  | none => none
def retV : List Value → Value
 | [v] => v
 | vs => .tuple vs.toArray
def rsem (tmps : Array Value) : ResultVar → Sem Value
 | .tmp t => pure (tmps.getD t undef)
 | .cell a t => do loadVar t (← asAddr (tmps.getD a undef))
section
variable {P : Program} {T : List (Nat × TI)} {L : Lay} {st st' : St} {a : Act} {w : World} {R : Nat → Prop}
theorem rpv_ok (hT : TabOk P T) (h : Rel L st a w R) {rv : ResultVar} {agg : Bool} {s : Sh} {f : Fl} {x : s.ty} {st' : St} (hg : grab st agg s (rpv T st rv agg s) = some (f, x, st')) : ∃ v, (rsem a.tmps rv).run P w = .ok v w ∧ ORep L st w (rpv T st rv agg s) v := by
 cases rv with
 | tmp t => exact ⟨_, rfl, h.opnd (.tmp t)⟩
 | cell b ty =>
  have dead : ∀ {pv : PV}, pv = .dead → grab st agg s pv = some (f, x, st') → False := fun e hg => by rw [e] at hg; simp [V.grab] at hg
  have hv := h.opnd (.tmp b)
  unfold rpv at hg ⊢
  simp only at hg ⊢
  split at hg
  ·rename_i i hi
   have hTt := hT ty i hi
   split at hg
   ·rename_i hc
    rw [if_pos hc]
    split at hg
    ·rename_i g p hx
     rw [hx] at hv
     split at hg
     ·rename_i s' f' y hl
      split at hg
      ·rename_i hs
       obtain ⟨s1, cs1, A, h1, h2⟩ := hv
       obtain rfl := h1.shape hl
       obtain ⟨q1, q2, B1, q3, q4⟩ := h.place h1 hl
       obtain ⟨v, r1, r2⟩ := run_loadVarAt (P := P) hTt q1 (by rw [q4.len, hs])
       have he : a.tmps.getD b undef = .pointer (some A) := h2
       refine ⟨v, by simp [rsem, he, asAddr, r1], ?_⟩
       rw [if_pos hs]
       unfold loaded
       by_cases hpl : (s'.plain || Fl.allfz s' f') = true
       ·rw [if_pos hpl]
        refine ⟨cs1, r2, ?_⟩
        simp only [Bool.or_eq_true] at hpl
        rcases hpl with hpl | hpl
        ·exact q4.plain hpl
        ·exact q4.allfz hpl
       ·rw [if_neg hpl]
        refine ⟨s', cs1, some A, h1, r2, fun hag => ?_⟩
        simp only [Bool.or_eq_true, not_or, Bool.not_eq_true] at hpl
        have hone := hTt.one hag
        rw [← hs] at hone
        cases s' with
        | sl _ _ => rfl
        | unit => simp [Sh.plain] at hpl
        | int _ => simp [Sh.plain] at hpl
        | bool => simp [Sh.plain] at hpl
        | str => simp [Sh.plain] at hpl
        | pr a b => exact absurd hpl.1 (by have := hTt.noPr hag; rw [← hs] at this; simp [Sh.isPr] at this)
      ·exact (dead rfl hg).elim
     ·exact (dead rfl hg).elim
    ·rename_i s' y hx
     rw [hx] at hv
     split at hg
     ·rename_i hs
      obtain ⟨ad, cs, h1, h2, h3, h4, h5⟩ := hv
      obtain ⟨v, r1, r2⟩ := run_loadVarAt (P := P) hTt (A := ad) (cs := cs) (fun A hA j hj => by obtain rfl := Option.some.inj hA; exact h4 j (by omega)) (by rw [h2, hs])
      have he : a.tmps.getD b undef = .pointer (some ad) := h1
      refine ⟨v, by simp [rsem, he, asAddr, r1], ?_⟩
      rw [if_pos hs]
      exact ⟨cs, r2, h5⟩
     ·exact (dead rfl hg).elim
    ·exact (dead rfl hg).elim
   ·exact (dead rfl hg).elim
  ·exact (dead rfl hg).elim
theorem vgrabs_ok (hT : TabOk P T) : ∀ (l : List (ResultVar × Bool × Sh)) {L : Lay} {st : St} {R : Nat → Prop}, Rel L st a w R → ∀ {aggs : List Bool} {s : Sh} {f : Fl} {x : s.ty}, vgrabs T st l = some (aggs, ⟨s, f, x⟩) →
  ∃ cs, ∃ B : Nat → Prop, Rep w L.Z s f x cs B ∧ (∀ b, B b → ¬ R b ∧ ∃ t, L.F t b) ∧ (tupV aggs s cs).length = l.length ∧ ∀ (i : Nat) (q : ResultVar × Bool × Sh) (v : Value), l[i]? = some q → (tupV aggs s cs)[i]? = some v → (rsem a.tmps q.1).run P w = .ok v w := by
 intro l
 induction l with
 | nil =>
  intro L st R h aggs s f x hg
  simp only [vgrabs, Option.some.injEq, Prod.mk.injEq, Sigma.mk.injEq] at hg
  obtain ⟨rfl, rfl, e⟩ := hg
  exact ⟨[], Free, rfl, fun b hb => hb.elim, rfl, fun i q v hi => by simp at hi⟩
 | cons q r ih =>
  intro L st R h aggs s f x hg
  obtain ⟨t, agg, s1⟩ := q
  have agV : ∀ {cs1 : List Value} {v : Value}, mkV agg cs1 v → aggV agg cs1 = v := by
   intro cs1 v hm
   cases agg with
   | true => simp only [mkV, if_true] at hm; simp [aggV, hm]
   | false => simp only [mkV, Bool.false_eq_true, if_false] at hm; subst hm; rfl
  cases r with
  | nil =>
   simp only [vgrabs] at hg
   split at hg
   ·rename_i f1 x1 st1 hg1
    obtain ⟨v1, hv1, ho1⟩ := rpv_ok hT h hg1
    obtain ⟨L', B1, cs1, g1, g2, g3, g4, g5, g6, g7⟩ := h.grab ho1 hg1
    simp only [Option.some.injEq, Prod.mk.injEq, Sigma.mk.injEq] at hg
    obtain ⟨rfl, rfl, e⟩ := hg
    obtain ⟨rfl, rfl⟩ := Prod.mk.inj (eq_of_heq e)
    refine ⟨cs1, B1, g5, g3, rfl, fun i q v hi hv => ?_⟩
    simp only [tupV] at hv
    rw [agV g4] at hv
    cases i with
    | zero => simp only [List.getElem?_cons_zero, Option.some.injEq] at hi hv; subst hi; subst hv; exact hv1
    | succ i => simp at hi
   ·cases hg
  | cons q2 r =>
   simp only [vgrabs] at hg
   split at hg
   ·rename_i f1 x1 st1 hg1
    obtain ⟨v1, hv1, ho1⟩ := rpv_ok hT h hg1
    obtain ⟨L', B1, cs1, g1, g2, g3, g4, g5, g6, g7⟩ := h.grab ho1 hg1
    split at hg
    ·rename_i aggs' s' f' x' hg2
     simp only [Option.some.injEq, Prod.mk.injEq, Sigma.mk.injEq] at hg
     obtain ⟨rfl, rfl, e⟩ := hg
     obtain ⟨rfl, rfl⟩ := Prod.mk.inj (eq_of_heq e)
     obtain ⟨cs2, B2, k1, k2, k3, k4⟩ := ih g2 hg2
     rw [g1.Z] at k1
     refine ⟨cs1 ++ cs2, fun b => B1 b ∨ B2 b, ⟨cs1, cs2, B1, B2, rfl, fun b hb => .inl hb, fun b hb => .inr hb, fun b h1 h2 => (k2 b h2).1 (.inr h1), g5, k1⟩, fun b hb => ?_, ?_⟩
     ·rcases hb with hb | hb
      ·exact g3 b hb
      ·refine ⟨fun hr => (k2 b hb).1 (.inl hr), ?_⟩
       obtain ⟨t', ht'⟩ := (k2 b hb).2
       exact g1.F t' b ht'
     ·match aggs', k3, k4 with
      | [], k3, _ => simp [tupV] at k3
      | g' :: r', k3, k4 =>
       have e : tupV (agg :: g' :: r') (Sh.pr s1 s') (cs1 ++ cs2) = v1 :: tupV (g' :: r') s' cs2 := by
        simp only [tupV]
        rw [List.take_left' g5.len, List.drop_left' g5.len, agV g4]
       refine ⟨by rw [e, List.length_cons, k3]; rfl, fun i q v hi hv => ?_⟩
       rw [e] at hv
       cases i with
       | zero => simp only [List.getElem?_cons_zero, Option.some.injEq] at hi hv; subst hi; subst hv; exact hv1
       | succ i => simp only [List.getElem?_cons_succ] at hi hv; exact k4 i q v hi hv
    ·cases hg
   ·cases hg
theorem results_run (fn : Func) (l : List (ResultVar × Bool × Sh)) (h : fn.results.toList = l.map fun q => q.1) (tmps : Array Value) (vs : List Value) (hl : vs.length = l.length) (hv : ∀ (i : Nat) (q : ResultVar × Bool × Sh) (v : Value), l[i]? = some q → vs[i]? = some v → (rsem tmps q.1).run P w = .ok v w) :
  (results fn tmps).run P w = .ok (retV vs) w := by
 have e : fn.results = (l.map fun q => q.1).toArray := by apply Array.ext'; simpa using h
 have key : ∀ (g : ResultVar → Sem Value), (∀ rv, g rv = rsem tmps rv) → ∀ (l : List (ResultVar × Bool × Sh)) (vs : List Value), vs.length = l.length → (∀ (i : Nat) (q : ResultVar × Bool × Sh) (v : Value), l[i]? = some q → vs[i]? = some v → (rsem tmps q.1).run P w = .ok v w) → Sem.run P (List.mapM g (l.map fun q => q.1)) w = Result.ok vs w := by
  intro g hg l
  induction l with
  | nil => intro vs hl _; obtain rfl := List.eq_nil_of_length_eq_zero hl; rfl
  | cons q r ih =>
   intro vs hl hv
   cases vs with
   | nil => simp at hl
   | cons v vs =>
    have h0 := hv 0 q v rfl rfl
    have h1 := ih vs (by simpa using hl) fun i q' v' hi hv' => hv (i + 1) q' v' (by simpa using hi) (by simpa using hv')
    simp only [List.map_cons, List.mapM_cons, hg, Sem.run_bind, h0, h1, Result.andThen_ok, Sem.run_pure]
 unfold results
 rw [e, List.mapM_toArray]
 simp only [map_eq_pure_bind, bind_assoc, pure_bind, Sem.run_bind]
 rw [key _ (fun rv => by cases rv <;> rfl) l vs hl hv]
 simp only [Result.andThen_ok]
 rcases vs with _ | ⟨v, _ | ⟨v2, vs⟩⟩ <;> rfl
theorem VC.of_body (hT : TabOk P T) {f : FuncId} {fn : Func} {c : Code} {args : List PV} {R : PV → Prop} (hf : P.funcs[f]? = some fn) (hb : fn.body = some c) (hnm : (fn.name == "runtime.NumGoroutine") = false) (res : List (ResultVar × Bool × Sh)) (hres : fn.results.toList = res.map fun q => q.1)
  (h : VW P c (args ++ List.replicate (fn.ntmps - args.length) .dead) (fun e st => (e = .ret ∨ e = .normal) ∧ ∃ pv, vret T st res = some pv ∧ R pv)) : VC P f args R := by
 refine ⟨⟨fn, hf, by rw [hb]; rfl, hnm⟩, fun Z w vals hz hl ha => ?_⟩
 refine calls_of_wp hf hb ?_
 have hr0 : Rel ⟨Z, fun _ => Free, fun _ => [], fun _ => none⟩ (args ++ List.replicate (fn.ntmps - args.length) .dead) { tmps := vals.toArray ++ Array.replicate (fn.ntmps - vals.toArray.size) undef, defers := [] } w Free := by
  refine ⟨by simp [hl], rfl, hz, fun t b hb => hb.elim, fun t t' b hb => hb.elim, fun b hb => hb.elim, fun t b hb => hb.elim, fun t ht => ?_⟩
  by_cases hlt : t < args.length
  ·have e1 : St.at (args ++ List.replicate (fn.ntmps - args.length) .dead) t = args[t] := by
    unfold St.at
    rw [List.getD_eq_getElem?_getD, List.getElem?_append_left hlt, List.getElem?_eq_getElem hlt]; rfl
   have hlv : t < vals.length := by omega
   have e2 : (vals.toArray ++ Array.replicate (fn.ntmps - vals.toArray.size) undef).getD t undef = vals[t] := by
    rw [Array.getD_eq_getD_getElem?, Array.getElem?_append_left (by simpa using hlv)]
    simp [hlv]
   have hA := ha t _ _ (List.getElem?_eq_getElem hlt) (List.getElem?_eq_getElem hlv)
   rw [e1]
   simp only [e2]
   cases hpv : args[t] with
   | v agg s x => rw [hpv] at hA; exact hA
   | emp => rw [hpv] at hA; exact hA
   | fadr s x => rw [hpv] at hA; exact hA
   | fn f caps =>
    rw [hpv] at hA
    obtain ⟨vs, q1, q2, q3⟩ := hA
    refine ⟨vs, q1, q2, fun i c u hc hu => ?_⟩
    obtain ⟨s, x, rfl, q4⟩ := q3 i c u hc hu
    exact q4
   | dead => trivial
   | h => rw [hpv] at hA; exact hA.elim
   | adr => rw [hpv] at hA; exact hA.elim
   | root => rw [hpv] at hA; exact hA.elim
  ·have e1 : St.at (args ++ List.replicate (fn.ntmps - args.length) .dead) t = .dead := by
    unfold St.at
    rw [List.getD_eq_getElem?_getD, List.getElem?_append_right (by omega), List.getElem?_replicate]
    split <;> rfl
   rw [e1]; trivial
 refine wp_mono (h _ _ w hr0) fun e a' w' ⟨L', st', s, r, he, pv, hp, hR⟩ => ?_
 have hext : Ext w w' := ⟨s.os, s.tape, s.output, s.size, fun b hb => s.block b hb (fun t ht => ht)⟩
 have hfresh : ∀ b, (∃ t, L'.F t b) → w.heap.size ≤ b ∧ b < w'.heap.size := by
  rintro b ⟨t, ht⟩
  refine ⟨?_, (r.flt t b ht).1⟩
  rcases s.F t b ht with ⟨_, q⟩ | q
  ·exact q.elim
  ·exact q
 have hZU : ZUp w w' Z (fun _ => False) L'.Z := ⟨s.Z.up, fun b hb => by
  rcases s.Z.nw b hb with q | ⟨t, q⟩ | q
  ·exact .inl q
  ·exact q.elim
  ·exact .inr ⟨.inr q, r.zlt b hb⟩⟩
 have hnw : ∀ b, (∃ t, L'.F t b) → NewIn w w' L'.Z b := fun b hb => ⟨hfresh b hb, by obtain ⟨t, ht⟩ := hb; exact (r.flt t b ht).2⟩
 have fin : a'.defers = [] ∧ ∃ v, (results fn a'.tmps).run P w' = .ok v w' ∧ ∃ v2 pv, Ending.returned v = .returned v2 ∧ Ext w w' ∧ R pv ∧ FRes w w' Z pv v2 := by
  have multi : (∀ q, res ≠ [q]) → ∀ {aggs s f x}, vgrabs T st' res = some (aggs, ⟨s, f, x⟩) → tupOk aggs s = true → R (.root (.tup aggs) s f x) → a'.defers = [] ∧ ∃ v, (results fn a'.tmps).run P w' = .ok v w' ∧ ∃ v2 pv, Ending.returned v = .returned v2 ∧ Ext w w' ∧ R pv ∧ FRes w w' Z pv v2 := by
   intro hne aggs s f x hg ht hR
   obtain ⟨cs, B, k1, k2, k3, k4⟩ := vgrabs_ok hT res r hg
   refine ⟨r.defers, _, results_run fn res hres a'.tmps _ k3 k4, _, _, rfl, hext, hR, L'.Z, hZU, cs, none, B, ⟨?_, ht, rfl⟩, fun b hb => hnw b (k2 b hb).2, (fun A hA => by cases hA), k1⟩
   match hvs : tupV aggs s cs, res, hne, k3 with
   | [], _, _, _ => rfl
   | [v], [], _, k3 => simp at k3
   | [v], [q], hne, _ => exact absurd rfl (hne q)
   | [v], q :: q2 :: r', _, k3 => simp at k3
   | v :: v2 :: vs, _, _, _ => rfl
  match res, hp, multi, hres with
  | [], hp, multi, _ =>
   simp only [vret] at hp
   split at hp
   ·rename_i aggs s1 f x hg
    split at hp
    ·rename_i ht
     obtain rfl := Option.some.inj hp
     exact multi (fun q => by simp) hg ht hR
    ·cases hp
   ·cases hp
  | [(t, agg, s1)], hp, _, hres =>
   simp only [vret] at hp
   split at hp
   ·rename_i f x st1 hg
    obtain ⟨v1, hv1, ho1⟩ := rpv_ok hT r hg
    obtain ⟨L2, B1, cs1, g1, g2, g3, g4, g5, g6, g7⟩ := r.grab ho1 hg
    refine ⟨r.defers, _, results_run fn _ hres a'.tmps [v1] rfl (fun i q v hi hv => by
     cases i with
     | zero => simp only [List.getElem?_cons_zero, Option.some.injEq] at hi hv; subst hi; subst hv; exact hv1
     | succ i => simp at hi), _, pv, rfl, hext, hR, ?_⟩
    split at hp
    ·rename_i hpl
     obtain rfl := Option.some.inj hp
     refine ⟨L'.Z, hZU, cs1, g4, ?_⟩
     simp only [Bool.or_eq_true] at hpl
     rcases hpl with hpl | hpl
     ·exact g5.plain hpl
     ·exact g5.allfz hpl
    ·split at hp
     ·rename_i hag
      obtain rfl := Option.some.inj hp
      refine ⟨L'.Z, hZU, cs1, none, B1, ⟨g4, fun e => ?_, rfl⟩, fun b hb => hnw b (g3 b hb).2, (fun A hA => by cases hA), g5⟩
      subst e; simpa using hag
     ·cases hp
   ·cases hp
  | q :: q2 :: r', hp, multi, _ =>
   simp only [vret] at hp
   split at hp
   ·rename_i aggs s1 f x hg
    split at hp
    ·rename_i ht
     obtain rfl := Option.some.inj hp
     exact multi (fun q => by simp) hg ht hR
    ·cases hp
   ·cases hp
 rcases he with rfl | rfl
 ·exact fin
 ·exact fin
end
end Go.Proofs.YtoeblmcibheldaaGreatDoor.V
end
section
/- Arguments of a row, read as typed values. No condition. -/
namespace Go.Proofs.YtoeblmcibheldaaGreatDoor.V
open Go Go.RowKit Go.WideShapes Go.ChangeShapes
def wfS (P : Program) : (s : Sh) → s.ty → Prop
 | .unit, _ => True
 | .int k, x => (Lit.int k x).wf = true
 | .bool, _ => True
 | .str, x => ByteArray.size x ≤ 140737488351232
 | .sl e s, xs => List.length xs * P.bytesOf e ≤ 140737488351232 ∧ List.length xs ≤ maxLen ∧ ∀ x ∈ (xs : List s.ty), wfS P s x
 | .pr a b, x => wfS P a x.1 ∧ wfS P b x.2
section
variable {H : Type} {enc : TypeId × Value → H} {P : Program}
def InZ (W : World) (b : Nat) : Prop := b < W.heap.size
/-- What can be read as data of type t is a value of shape s. -/
def Reads (enc : TypeId × Value → H) (P : Program) (t : TypeId) (s : Sh) : Prop :=
 ∀ (W : World) (fuel : Nat) (cs : List Value) (dd : DataW H) (p : List MemPlace), DataW.trod enc P W 0 (fun _ => true) true fuel t cs = some (dd, p) → (∀ n ∈ dd.weights P t, n ≤ reachBytes) → ∃ x : s.ty, Rep W (InZ W) s .fz x cs (fun _ => False) ∧ wfS P s x
theorem reads_int {t : TypeId} {k : IntKind} (ht : P.underlying t = some (.int k)) : Reads enc P t (.int k) := by
 intro W fuel cs dd p h hw
 cases fuel with
 | zero => simp [DataW.trod] at h
 | succ n =>
  unfold DataW.trod at h
  rw [ht] at h
  split at h <;> simp_all
  obtain ⟨⟨e, h1⟩, rfl, rfl⟩ := h
  rename_i hk0
  subst hk0
  exact ⟨_, rfl, h1⟩
theorem reads_bool {t : TypeId} (ht : P.underlying t = some .bool) : Reads enc P t .bool := by
 intro W fuel cs dd p h hw
 cases fuel with
 | zero => simp [DataW.trod] at h
 | succ n =>
  unfold DataW.trod at h
  rw [ht] at h
  split at h
  all_goals first
   | (injections; done)
   | (exact ⟨_, rfl, trivial⟩)
   | simp_all
theorem reads_string {t : TypeId} (ht : P.underlying t = some .string) : Reads enc P t .str := by
 intro W fuel cs dd p h hw
 cases fuel with
 | zero => simp [DataW.trod] at h
 | succ n =>
  unfold DataW.trod at h
  rw [ht] at h
  split at h <;> simp_all
  obtain ⟨h1, rfl, rfl⟩ := h
  refine ⟨_, rfl, ?_⟩
  have := hw _ (by simp [DataW.weights]; rfl)
  simpa [wfS, reachBytes] using this
theorem weightsAll_mem' {e : TypeId} : ∀ {l : List (DataW H)} {x : DataW H} {n : Nat}, x ∈ l → n ∈ x.weights P e → n ∈ DataW.weightsAll P e l
 | [], _, _, h, _ => by simp at h
 | y :: l, x, n, h, hn => by
  simp only [DataW.weightsAll, List.mem_append]
  rcases List.mem_cons.1 h with rfl | h
  ·exact .inl hn
  ·exact .inr (weightsAll_mem' h hn)
theorem cells?_cell' {w : World} {a : Addr} {n : Nat} {cs : List Value} (h : w.cells? 0 a n = some cs) : cs.length = n ∧ ∀ (i : Nat) (u : Value), cs[i]? = some u → w.cell? (a.add i) = some u := by
 unfold World.cells? at h
 rw [if_pos (Nat.zero_le _)] at h
 have hl : cs.length = n := by have := mapM_some_length h; simpa using this
 refine ⟨hl, fun i u hu => ?_⟩
 have hi : i < cs.length := (List.getElem?_eq_some_iff.1 hu).1
 have := mapM_some_get h i i (by rw [List.getElem?_range (by omega)])
 rw [this, hu]
theorem reads_slice {t e : TypeId} {s : Sh} (ht : P.underlying t = some (.slice e)) (hd : P.cellsOf e = s.size) (hp : 0 < s.size) (he : Reads enc P e s) : Reads enc P t (.sl e s) := by
 intro W fuel cs dd p h hw
 rcases DataW.trod_slice ht h with ⟨rfl, hx⟩ | ⟨a, len, cap, elems, rest, n, rfl, rfl, hx, hb, hl, hm, hel, hget, _, _⟩
 ·exact ⟨[], ⟨none, 0, rfl, Nat.le_refl _, Nat.zero_le _, fun h => absurd h (by simp)⟩, by simp, by simp, by simp⟩
 ·obtain ⟨rfl, rfl⟩ := Prod.mk.inj hx
  rw [hd] at hget
  have hwl : (elems.length + rest.length) * P.bytesOf e ≤ reachBytes := hw _ (by simp [DataW.weights, ht])
  have hwe : ∀ y ∈ elems, ∀ m ∈ y.1.weights P e, m ≤ reachBytes := fun y hy m hm => hw m (by
   simp only [DataW.weights, ht]
   exact List.mem_cons_of_mem _ (List.mem_append_left _ (weightsAll_mem' (List.mem_map_of_mem hy) hm)))
  have key : ∀ i, i < len → ∃ x c, wfS P s x ∧ Rep W (InZ W) s .fz x c (fun _ => False) ∧ c.length = s.size ∧ ∀ j, j < s.size → W.cell? (a.add (i * s.size + j)) = c[j]? := by
   intro i hi
   have hg := hget i hi
   rw [List.getElem?_eq_getElem (by omega)] at hg
   obtain ⟨c, hc, htr⟩ := Option.bind_eq_some_iff.1 hg
   obtain ⟨hcl, hcc⟩ := cells?_cell' hc
   obtain ⟨x, hk, hx⟩ := he W n c _ _ htr (hwe _ (List.getElem_mem _))
   refine ⟨x, c, hx, hk, hcl, fun j hj => ?_⟩
   have := hcc j _ (List.getElem?_eq_getElem (by omega))
   rw [add_add] at this
   rw [this, List.getElem?_eq_getElem (by omega)]
  have build : ∀ m, m ≤ len → ∃ l : List s.ty, l.length = m ∧ (∀ x ∈ l, wfS P s x) ∧ ∀ (j : Nat) (x : s.ty), l[j]? = some x → ∃ c : List Value, c.length = s.size ∧ (∀ i, i < s.size → W.cell? (a.add (j * s.size + i)) = c[i]?) ∧ Rep W (InZ W) s .fz x c (fun _ => False) := by
   intro m
   induction m with
   | zero => intro _; exact ⟨[], rfl, by simp, by simp⟩
   | succ m ih =>
    intro hm1
    obtain ⟨l, hl1, hl2, hl3⟩ := ih (by omega)
    obtain ⟨x, c, hx, hk, hcl, hcc⟩ := key m (by omega)
    refine ⟨l ++ [x], by simp [hl1], ?_, ?_⟩
    ·intro y hy
     rcases List.mem_append.1 hy with hy | hy
     ·exact hl2 y hy
     ·rw [List.mem_singleton.1 hy]; exact hx
    ·intro j y hj
     rcases Nat.lt_or_ge j m with hjm | hjm
     ·rw [List.getElem?_append_left (by omega)] at hj
      exact hl3 j y hj
     ·rw [List.getElem?_append_right (by omega), hl1] at hj
      have hj0 : j - m = 0 := by
       have := (List.getElem?_eq_some_iff.1 hj).1
       simp at this
       omega
      obtain rfl : j = m := by omega
      rw [hj0] at hj
      simp at hj
      subst hj
      exact ⟨c, hcl, hcc, hk⟩
  obtain ⟨l, hl1, hl2, hl3⟩ := build len (Nat.le_refl _)
  have hlen : l.length ≤ maxLen := by omega
  refine ⟨l, ⟨some a, cap, by rw [hl1], by omega, hlen, fun hpos => ⟨a, rfl, ?_, fun i hi => ?_⟩⟩, ?_, hlen, hl2⟩
  ·obtain ⟨c, q1, q2, _⟩ := hl3 0 _ (List.getElem?_eq_getElem hpos)
   have h1 := q2 0 hp
   rw [List.getElem?_eq_getElem (by omega)] at h1
   obtain ⟨_, cur, e', fr, h2⟩ := cell_some h1
   rw [add_block] at h2
   exact (Array.getElem?_eq_some_iff.1 h2).1
  ·obtain ⟨c, q1, q2, q3⟩ := hl3 i _ (List.getElem?_eq_getElem hi)
   refine ⟨c, q1, q2, ?_⟩
   have : l.getD i s.zero = l[i] := by rw [List.getD_eq_getElem?_getD, List.getElem?_eq_getElem hi]; rfl
   rw [this]; exact q3
  ·have : l.length * P.bytesOf e ≤ (elems.length + rest.length) * P.bytesOf e := Nat.mul_le_mul_right _ (by omega)
   simp only [reachBytes] at hwl
   omega
def fieldsB (P : Program) (r : TypeId → Sh → Bool) : List Field → Sh → Nat → Bool
 | [f], s, o => decide (f.offset = o) && decide (P.cellsOf f.type = s.size) && r f.type s
 | f :: g :: fs, .pr a b, o => decide (f.offset = o) && decide (P.cellsOf f.type = a.size) && r f.type a && fieldsB P r (g :: fs) b (o + a.size)
 | _, _, _ => false
def rdB (P : Program) : Nat → TypeId → Sh → Bool
 | 0, _, _ => false
 | n + 1, t, s => match P.underlying t with
  | some (.int k) => decide (s = .int k)
  | some .bool => decide (s = .bool)
  | some .string => decide (s = .str)
  | some (.slice e) => match s with
   | .sl e' s' => decide (e = e') && decide (P.cellsOf e = s'.size) && decide (0 < s'.size) && rdB P n e s'
   | _ => false
  | some (.struct fs) => decide (P.cellsOf t = s.size) && fieldsB P (rdB P n) fs.toList s 0
  | _ => false
theorem reads_fields {r : TypeId → Sh → Bool} (hr : ∀ t s, r t s = true → Reads enc P t s) : ∀ (fs : List Field) (s : Sh) (o : Nat), fieldsB P r fs s o = true → ∀ (W : World) (n : Nat) (cs : List Value) (xs : List (DataW H × List MemPlace)), cs.length = o + s.size → xs.length = fs.length →
  (∀ (i : Nat) (f : Field), fs[i]? = some f → DataW.trod enc P W 0 (fun _ => true) true n f.type ((cs.drop f.offset).take (P.cellsOf f.type)) = xs[i]?) → (∀ m ∈ DataW.weightsEach P (fs.map (·.type)) (xs.map (·.1)), m ≤ reachBytes) → ∃ x : s.ty, Rep W (InZ W) s .fz x (cs.drop o) (fun _ => False) ∧ wfS P s x
 | [], s, o, h => by cases s <;> simp [fieldsB] at h
 | [f], s, o, h => by
  intro W n cs xs hl hx hf hw
  have h' : (decide (f.offset = o) && decide (P.cellsOf f.type = s.size) && r f.type s) = true := by cases s <;> exact h
  simp only [Bool.and_eq_true, decide_eq_true_eq] at h'
  obtain ⟨⟨h0, hs⟩, h1⟩ := h'
  match xs, hx with
  | [y], _ =>
   have := hf 0 f rfl
   simp only [List.getElem?_cons_zero] at this
   obtain ⟨x, hk, hx⟩ := hr _ _ h1 W n _ _ _ this (fun m hm => hw m (by simp [DataW.weightsEach]; exact hm))
   rw [h0, hs, List.take_of_length_le (by simp; omega)] at hk
   exact ⟨x, hk, hx⟩
 | f :: g :: fs, s, o, h => by
  intro W n cs xs hl hx hf hw
  cases s with
  | pr a b =>
   simp only [fieldsB, Bool.and_eq_true, decide_eq_true_eq] at h
   obtain ⟨⟨⟨h0, hs⟩, h1⟩, h2⟩ := h
   match xs, hx with
   | y :: ys, hx =>
    have h3 := hf 0 f rfl
    simp only [List.getElem?_cons_zero] at h3
    obtain ⟨x, hk, hwx⟩ := hr _ _ h1 W n _ _ _ h3 (fun m hm => hw m (by simp only [List.map_cons, DataW.weightsEach, List.mem_append]; exact .inl hm))
    simp only [Sh.size] at hl
    obtain ⟨x', hk', hwx'⟩ := reads_fields hr (g :: fs) b (o + a.size) h2 W n cs ys (by omega) (by simpa using hx) (fun i f' hf' => by have := hf (i + 1) f' (by simpa using hf'); simpa using this) (fun m hm => hw m (by simp only [List.map_cons, DataW.weightsEach, List.mem_append] at hm ⊢; exact .inr hm))
    rw [h0, hs] at hk
    refine ⟨(x, x'), ⟨_, _, fun _ => False, fun _ => False, ?_, fun _ h => h, fun _ h => h, fun _ h _ => h, hk, hk'⟩, hwx, hwx'⟩
    rw [← List.drop_drop, List.take_append_drop]
  | unit => simp [fieldsB] at h
  | int _ => simp [fieldsB] at h
  | bool => simp [fieldsB] at h
  | str => simp [fieldsB] at h
  | sl _ _ => simp [fieldsB] at h
theorem reads_ok : ∀ (n : Nat) (t : TypeId) (s : Sh), rdB P n t s = true → Reads enc P t s := by
 intro n
 induction n with
 | zero => intro t s h; cases h
 | succ n ih =>
  intro t s h
  unfold rdB at h
  split at h
  ·rename_i k ht
   obtain rfl := of_decide_eq_true h
   exact reads_int ht
  ·rename_i ht
   obtain rfl := of_decide_eq_true h
   exact reads_bool ht
  ·rename_i ht
   obtain rfl := of_decide_eq_true h
   exact reads_string ht
  ·rename_i e ht
   split at h
   ·rename_i e' s'
    simp only [Bool.and_eq_true, decide_eq_true_eq] at h
    obtain ⟨⟨⟨rfl, h1⟩, h2⟩, h3⟩ := h
    exact reads_slice ht h1 h2 (ih _ _ h3)
   ·cases h
  ·rename_i fs ht
   simp only [Bool.and_eq_true, decide_eq_true_eq] at h
   obtain ⟨h1, h2⟩ := h
   intro W fuel cs dd p hh hw
   obtain ⟨xs, n', rfl, hx, hl, hlen, hf⟩ := DataW.trod_struct ht hh
   obtain ⟨rfl, rfl⟩ := Prod.mk.inj hx
   obtain ⟨x, hk, hwx⟩ := reads_fields ih fs.toList s 0 h2 W n' cs xs (by omega) (by simpa using hlen) (fun i f hfi => hf i f (by simpa using hfi)) (fun m hm => hw m (by simp only [DataW.weights, ht]; exact hm))
   exact ⟨x, by simpa using hk, hwx⟩
  ·cases h
/-- An argument of a row. -/
theorem Reads.arg {t : TypeId} {s : Sh} (h : Reads enc P t s) {W : World} {v : Value} {dd : DataW H} {p : List MemPlace} {ts : List TypeId} {ds : List (DataW H)} {j : Nat} {agg : Bool} (hv : mkV agg v.cells.toList v)
  (hsz : (DataW.weightsEach P ts ds).all (· ≤ reachBytes) = true) (ht : ts[j]? = some t) (hd : ds[j]? = some dd) (hr : DataW.Trod enc P W 0 (fun _ => true) true t v dd p) : ∃ x : s.ty, ARep W (InZ W) (.v agg s x) v ∧ wfS P s x := by
 obtain ⟨fuel, hf⟩ := hr
 obtain ⟨x, h1, h2⟩ := h W fuel _ _ _ hf (fun n hn => by have := List.all_eq_true.1 hsz n (DataW.weights_mem_each ht hd n hn); simpa using this)
 exact ⟨x, ⟨_, hv, h1⟩, h2⟩
/-- all the arguments -/
def AAll (w : World) (Z : Nat → Prop) (args : List PV) (vals : List Value) : Prop := vals.length = args.length ∧ ∀ (i : Nat) (pv : PV) (v : Value), args[i]? = some pv → vals[i]? = some v → ARep w Z pv v
theorem AAll.nil (w : World) (Z : Nat → Prop) : AAll w Z [] [] := ⟨rfl, fun i pv v hi => by simp at hi⟩
theorem AAll.cons {w : World} {Z : Nat → Prop} {pv : PV} {v : Value} {args : List PV} {vals : List Value} (h : ARep w Z pv v) (k : AAll w Z args vals) : AAll w Z (pv :: args) (v :: vals) := by
 refine ⟨by simp [k.1], fun i pv' v' hi hv => ?_⟩
 cases i with
 | zero => simp only [List.getElem?_cons_zero, Option.some.injEq] at hi hv; subst hi; subst hv; exact h
 | succ i => simp only [List.getElem?_cons_succ] at hi hv; exact k.2 i pv' v' hi hv
theorem GOk.start {W : World} (h : ∀ p, p ∈ gls → ∃ cs x y, W.heap[p.1]? = some (.cells cs x y) ∧ p.2 cs) : GOk (InZ W) W := fun p hp => by
 obtain ⟨cs, x, y, e, e2⟩ := h p hp
 refine ⟨?_, cs, x, y, e, e2⟩
 rcases Nat.lt_or_ge p.1 W.heap.size with hl | hl
 ·exact hl
 ·rw [Array.getElem?_eq_none hl] at e; cases e
/-- a law's row: the call returns true -/
theorem row_calls {W : World} (hg : GOk (InZ W) W) {f : FuncId} {args : List PV} {vals : List Value} (h : VC P f args (· = .v false .bool true)) (ha : AAll W (InZ W) args vals) : Calls P f vals.toArray W fun e w' => e = .returned (.bool true) ∧ Below W.heap.size W w' := by
 refine (h.run (InZ W) W vals ⟨fun b hb => hb, hg⟩ ha.1 ha.2).mono fun e w' ⟨v, pv, h1, h2, h3, h4⟩ => ?_
 subst h3
 obtain ⟨Z2, _, h4⟩ := h4
 obtain ⟨cs, m1, m2⟩ := (h4 : ARep w' _ (.v false .bool true) v)
 simp only [Rep] at m2
 subst m2
 have : v = .bool true := by simpa [mkV] using m1.symm
 rw [h1, this]
 exact ⟨rfl, h2.os, h2.tape, h2.output, h2.size, fun k hk => h2.block k hk⟩
end
end Go.Proofs.YtoeblmcibheldaaGreatDoor.V
end
section
/- The law of a function that writes what it is handed. No condition. -/
namespace Go.Proofs.YtoeblmcibheldaaGreatDoor.V
open Go Go.RowKit
/-- the cells that a value with known slices has -/
def encI : (s : Sh) → Fl → s.ty → Option (List Value)
 | .unit, _, _ => some []
 | .int k, _, x => some [.int k x]
 | .bool, _, x => some [.bool x]
 | .str, _, x => some [.string x]
 | .pr a b, f, x => match encI a f.l x.1, encI b f.r x.2 with
  | some c, some d => some (c ++ d)
  | _, _ => none
 | .sl _ s, f, xs => match f with
  | .io n c => some [.slice (some ⟨n, 0, none⟩) (List.length (α := s.ty) xs) c]
  | .kz A c => some [.slice A (List.length (α := s.ty) xs) c]
  | _ => none
theorem Rep.encI {w : World} {Z : Nat → Prop} : ∀ {s : Sh} {f : Fl} {x : s.ty} {cs l : List Value} {B : Nat → Prop}, Rep w Z s f x cs B → encI s f x = some l → cs = l
 | .unit, _, _, _, _, _, h, k => by have h : _ = [] := h; rw [h]; simpa [V.encI] using k
 | .int _, _, _, _, _, _, h, k => by have h : _ = [_] := h; rw [h]; simpa [V.encI] using k
 | .bool, _, _, _, _, _, h, k => by have h : _ = [_] := h; rw [h]; simpa [V.encI] using k
 | .str, _, _, _, _, _, h, k => by have h : _ = [_] := h; rw [h]; simpa [V.encI] using k
 | .pr a b, f, x, cs, l, B, h, k => by
  obtain ⟨c1, c2, B1, B2, rfl, h1, h2, h3, h4, h5⟩ := h
  simp only [V.encI] at k
  split at k
  ·rename_i c d e1 e2
   rw [h4.encI e1, h5.encI e2]
   exact Option.some.inj k
  ·cases k
 | .sl e s, f, xs, cs, l, B, h, k => by
  cases f with
  | io n c =>
   rw [h.2]
   exact Option.some.inj k
  | kz A c =>
   rw [h.2]
   exact Option.some.inj k
  | _ => simp [V.encI] at k
/-- known slices are one's own -/
def Fl.untag : Sh → Fl → Fl
 | .pr a b, f => .pr (Fl.untag a f.l) (Fl.untag b f.r)
 | .sl _ _, f => match f with
  | .io _ _ => .own
  | .kz _ _ => .fz
  | f => f
 | _, f => f
theorem Rep.untag {w : World} {Z : Nat → Prop} : ∀ {s : Sh} {f : Fl} {x : s.ty} {cs : List Value} {B : Nat → Prop}, Rep w Z s f x cs B → Rep w Z s (Fl.untag s f) x cs B
 | .unit, _, _, _, _, h => h
 | .int _, _, _, _, _, h => h
 | .bool, _, _, _, _, h => h
 | .str, _, _, _, _, h => h
 | .pr a b, f, x, cs, B, ⟨c1, c2, B1, B2, h0, h1, h2, h3, h4, h5⟩ => ⟨c1, c2, B1, B2, h0, h1, h2, h3, h4.untag, h5.untag⟩
 | .sl e s, f, xs, cs, B, h => by
  cases f with
  | io n c => exact h.1
  | kz A c => exact h.1
  | _ => exact h
/-- own rows that are not empty are known -/
def tagF : Sh → List (Nat × Nat) → Fl × List (Nat × Nat)
 | .pr a b, l => match tagF a l with
  | (f, l) => match tagF b l with
   | (g, l) => (.pr f g, l)
 | .sl _ _, (n, c) :: l => (.io n c, l)
 | _, l => (.own, l)
/-- no row is empty -/
def fullV : (s : Sh) → s.ty → Prop
 | .pr a b, x => fullV a x.1 ∧ fullV b x.2
 | .sl _ s, xs => 0 < List.length (α := s.ty) xs
 | _, _ => True
/-- every slice is one's own -/
def Fl.allown : Sh → Fl → Bool
 | .pr a b, f => Fl.allown a f.l && Fl.allown b f.r
 | .sl _ _, f => match f with | .own => true | _ => false
 | _, _ => true
theorem Rep.tag {w : World} {Z : Nat → Prop} : ∀ {s : Sh} {f : Fl} {x : s.ty} {cs : List Value} {B : Nat → Prop}, Fl.allown s f = true → fullV s x → Rep w Z s f x cs B → ∀ r : List (Nat × Nat), ∃ l, Rep w Z s (tagF s (l ++ r)).1 x cs B ∧ (tagF s (l ++ r)).2 = r ∧ ∃ li, V.encI s (tagF s (l ++ r)).1 x = some li
 | .unit, _, _, _, _, _, _, h, r => ⟨[], h, rfl, _, rfl⟩
 | .int _, _, _, _, _, _, _, h, r => ⟨[], h, rfl, _, rfl⟩
 | .bool, _, _, _, _, _, _, h, r => ⟨[], h, rfl, _, rfl⟩
 | .str, _, _, _, _, _, _, h, r => ⟨[], h, rfl, _, rfl⟩
 | .pr a b, f, x, cs, B, k, q, ⟨c1, c2, B1, B2, h0, h1, h2, h3, h4, h5⟩, r => by
  simp only [Fl.allown, Bool.and_eq_true] at k
  obtain ⟨l2, m1, m2, li2, m5⟩ := h5.tag k.2 q.2 r
  obtain ⟨l1, m3, m4, li1, m6⟩ := h4.tag k.1 q.1 (l2 ++ r)
  refine ⟨l1 ++ l2, ?_, ?_, li1 ++ li2, ?_⟩
  ·rw [List.append_assoc]
   simp only [tagF, m4]
   exact ⟨c1, c2, B1, B2, h0, h1, h2, h3, m3, m1⟩
  ·rw [List.append_assoc]
   simp only [tagF, m4, m2]
  ·rw [List.append_assoc]
   simp only [tagF, m4, V.encI, Fl.l, Fl.r, m6, m5]
 | .sl e s, f, xs, cs, B, k, q, h, r => by
  cases f with
  | own =>
   rcases id h with ⟨A, _, hx⟩ | ⟨g, cap, cur, rows, Bs, hc, _⟩
   ·have hx : (xs : List s.ty) = [] := hx
    have q : 0 < (xs : List s.ty).length := q
    rw [hx] at q; simp at q
   ·exact ⟨[(g, cap)], ⟨h, hc⟩, rfl, _, rfl⟩
  | _ => simp [Fl.allown] at k
/-- the result, moved out, and the state behind it -/
def vretX (T : List (Nat × TI)) (st : St) : List (ResultVar × Bool × Sh) → Option (PV × St)
 | [] => some (.root (.tup []) .unit .fz (), st)
 | [(t, agg, s)] => match grab st agg s (rpv T st t agg s) with
  | some (f, x, st') => if s.plain || Fl.allfz s f then some (.v agg s x, st') else if agg || s.isSl then some (.root (.val agg) s f x, st') else none
  | none => match t with
   | .tmp t0 => match ref st (.tmp t0) with
    | .adr g [] => match st.at g with
     | .root (.box ty) s' f x => some (.root (.box ty) s' f x, (st.map (V.drop g)).set g .dead)
     | _ => none
    | _ => none
   | _ => none
 | _ => none
section
variable {P : Program} {T : List (Nat × TI)}
/-- what is left of what was handed over: A as it came, ot as it goes -/
def OutOk (A : PV) (st2 : St) (ot : PV) : Prop := ∀ (L : Lay) (a : Act) (w' : World) (R : Nat → Prop), Rel L st2 a w' R → ∀ (w : World) (Z F : Nat → Prop) (v : Value), GRep w Z F A v → ot = .dead ∨ ∃ g, GRep w' L.Z (L.F g) ot v
theorem OutOk.dead {A : PV} {st2 : St} : OutOk A st2 .dead := fun _ _ _ _ _ _ _ _ _ _ => .inl rfl
theorem OutOk.box {st2 : St} {t b g : Nat} {s : Sh} {f f' : Fl} {x x' : s.ty} (h : st2.at g = .root (.ibox t b) s f' x') : OutOk (.root (.ibox t b) s f x) st2 (.root (.box t) s f' x') := by
 intro L a w' R hr w Z F v ⟨cs, ad, B, r1, _⟩
 obtain ⟨q1, B', q2, q3, q4⟩ := hr.root h
 exact .inr ⟨g, L.C g, L.D g, B', ⟨b, r1.1, q1.2.1, q1.2.2⟩, q2, q3, q4⟩
theorem OutOk.val {st2 : St} {g : Nat} {agg : Bool} {k : RK} {s : Sh} {f f' : Fl} {x x' : s.ty} {l : List Value} (h : st2.at g = .root k s f' x') (h1 : encI s f x = some l) (h2 : encI s f' x' = some l) : OutOk (.root (.val agg) s f x) st2 (.root (.val agg) s (Fl.untag s f') x') := by
 intro L a w' R hr w Z F v ⟨cs, ad, B, r1, r2, r3, r4⟩
 obtain ⟨q1, B', q2, q3, q4⟩ := hr.root h
 obtain rfl := r4.encI h1
 have e := q4.encI h2
 refine .inr ⟨g, cs, none, B', ⟨r1.1, r1.2.1, rfl⟩, q2, (fun A hA => by cases hA), ?_⟩
 rw [← e]
 exact q4.untag
theorem vretX_ok (hT : TabOk P T) {L : Lay} {st : St} {a : Act} {w : World} (r : Rel L st a w Free) (fn : Func) (res : List (ResultVar × Bool × Sh)) (hres : fn.results.toList = res.map fun q => q.1) {pv : PV} {st2 : St} (hp : vretX T st res = some (pv, st2)) :
  ∃ v, (results fn a.tmps).run P w = .ok v w ∧ ∃ L2, ∃ R : Nat → Prop, Rel L2 st2 a w R ∧ L2.Z = L.Z ∧ (∀ t b, L2.F t b → ∃ t', L.F t' b) ∧ (∀ b, R b → ∃ t, L.F t b) ∧ GRep w L.Z R pv v := by
 match res, hp, hres with
 | [], hp, hres =>
  simp only [vretX, Option.some.injEq, Prod.mk.injEq] at hp
  obtain ⟨rfl, rfl⟩ := hp
  exact ⟨_, results_run fn [] hres a.tmps [] rfl (fun i q v hi => by simp at hi), L, Free, r, rfl, fun t b hb => ⟨t, hb⟩, fun b hb => hb.elim, [], none, Free, ⟨rfl, rfl, rfl⟩, fun _ h => h, (fun A hA => by cases hA), rfl⟩
 | [(t, agg, s)], hp, hres =>
  simp only [vretX] at hp
  split at hp
  ·rename_i f x st1 hg
   obtain ⟨v1, hv1, ho1⟩ := rpv_ok hT r hg
   obtain ⟨L2, B1, cs1, g1, g2, g3, g4, g5, g6, g7⟩ := r.grab ho1 hg
   have g2 : Rel L2 st1 a w B1 := g2.freeR fun b hb => .inr hb
   have hrun := results_run (P := P) (w := w) fn _ hres a.tmps [v1] rfl (fun i q v hi hv => by
     cases i with
     | zero => simp only [List.getElem?_cons_zero, Option.some.injEq] at hi hv; subst hi; subst hv; exact hv1
     | succ i => simp at hi)
   refine ⟨v1, hrun, L2, B1, ?_⟩
   split at hp
   ·rename_i hpl
    obtain ⟨rfl, rfl⟩ := Prod.mk.inj (Option.some.inj hp)
    refine ⟨g2, g1.Z, g1.F, fun b hb => (g3 b hb).2, cs1, g4, ?_⟩
    simp only [Bool.or_eq_true] at hpl
    rcases hpl with hpl | hpl
    ·exact g5.plain hpl
    ·exact g5.allfz hpl
   ·split at hp
    ·rename_i hag
     obtain ⟨rfl, rfl⟩ := Prod.mk.inj (Option.some.inj hp)
     refine ⟨g2, g1.Z, g1.F, fun b hb => (g3 b hb).2, cs1, none, B1, ⟨g4, fun e => ?_, rfl⟩, fun _ h => h, (fun A hA => by cases hA), g5⟩
     subst e; simpa using hag
    ·cases hp
  ·split at hp
   ·rename_i t0 _
    split at hp
    ·rename_i g hr
     split at hp
     ·rename_i ty s' f x hg
      obtain ⟨rfl, rfl⟩ := Prod.mk.inj (Option.some.inj hp)
      have hv := r.opnd (.tmp t0)
      rw [hr] at hv
      obtain ⟨s1, cs1, A, hP, hptr⟩ := hv
      obtain ⟨k', s0, f0, x0, hg', _, _, hsub⟩ := hP
      rw [sub_nil] at hsub
      obtain ⟨hC, hD⟩ := Prod.mk.inj (Option.some.inj hsub)
      obtain ⟨⟨b, m1, m2, m3⟩, B, q2, q3, q4⟩ := r.root hg
      rw [hD] at m3
      obtain ⟨_, rg, _, _⟩ := r.gone hg
      refine ⟨a.tmps.getD t0 undef, results_run fn _ hres a.tmps [a.tmps.getD t0 undef] rfl (fun i q v hi hv => ?_), _, L.F g, rg.freeR (fun b hb => .inr hb), rfl, fun t b hb => ?_, fun b hb => ⟨g, hb⟩, L.C g, L.D g, B, ⟨b, ?_, m2, by rw [hD]; exact m3⟩, q2, q3, q4⟩
      ·cases i with
       | zero => simp only [List.getElem?_cons_zero, Option.some.injEq] at hi hv; subst hi; subst hv; rfl
       | succ i => simp at hi
      ·simp only at hb
       split at hb
       ·exact hb.elim
       ·exact ⟨t, hb⟩
      ·have : a.tmps.getD t0 undef = .pointer (some A) := hptr
       rw [this, Option.some.inj m3]
     ·cases hp
    ·cases hp
   ·cases hp
theorem VX.of_body (hT : TabOk P T) {f : FuncId} {fn : Func} {c : Code} {args : List PV} {i : Nat} {R : PV → PV → Prop} (hf : P.funcs[f]? = some fn) (hb : fn.body = some c) (hnm : (fn.name == "runtime.NumGoroutine") = false) (res : List (ResultVar × Bool × Sh)) (hres : fn.results.toList = res.map fun q => q.1)
  {ι : Type} (A : ι → PV) (hA : ∀ pvi, args[i]? = some pvi → ∀ (w : World) (Z F : Nat → Prop) (v : Value), GRep w Z F pvi v → ∃ j, GRep w Z F (A j) v)
  (h : ∀ j, VW P c (args.set i (A j) ++ List.replicate (fn.ntmps - args.length) .dead) (fun e st => (e = .ret ∨ e = .normal) ∧ ∃ pv st2 ot, vretX T st res = some (pv, st2) ∧ OutOk (A j) st2 ot ∧ R pv ot)) (hi : i < args.length) : VX P f args i R := by
 refine ⟨⟨fn, hf, by rw [hb]; rfl, hnm⟩, fun Z F w vals hz hFz hl ha hg => ?_⟩
 refine calls_of_wp hf hb ?_
 have hil : i < vals.length := by omega
 obtain ⟨j, hj⟩ := hA _ (List.getElem?_eq_getElem hi) w Z F _ (hg _ _ (List.getElem?_eq_getElem hi) (List.getElem?_eq_getElem hil))
 have hAt : ∀ t, St.at (args.set i (A j) ++ List.replicate (fn.ntmps - args.length) .dead) t = if t = i then A j else (args ++ List.replicate (fn.ntmps - args.length) PV.dead).getD t .dead := by
  intro t
  unfold St.at
  rw [List.getD_eq_getElem?_getD, List.getD_eq_getElem?_getD]
  by_cases e : t = i
  ·subst e
   rw [if_pos rfl, List.getElem?_append_left (by simpa using hi), List.getElem?_set_self hi]; rfl
  ·rw [if_neg e]
   by_cases hlt : t < args.length
   ·rw [List.getElem?_append_left (by simpa using hlt), List.getElem?_append_left hlt, List.getElem?_set_ne (fun h => e h.symm)]
   ·rw [List.getElem?_append_right (by simp; omega), List.getElem?_append_right (by omega)]
    simp
 have hval : ∀ t, t < vals.length → (vals.toArray ++ Array.replicate (fn.ntmps - vals.toArray.size) undef).getD t undef = vals.getD t undef := by
  intro t hlt
  rw [Array.getD_eq_getD_getElem?, Array.getElem?_append_left (by simpa using hlt)]
  simp [hlt]
 have hval2 : ∀ t (ht : t < vals.length), vals.getD t undef = vals[t] := fun t ht => by rw [List.getD_eq_getElem?_getD, List.getElem?_eq_getElem ht]; rfl
 have hout : ∀ {pv : PV} {v : Value} {L : Lay} {st : St}, L.Z = Z → pv.isRoot = false → GRep w Z F pv v → ORep L st w pv v := by
  intro pv v L st hLZ hnr hr
  cases pv with
  | v agg s x => rw [← hLZ] at hr; exact hr
  | emp => exact hr
  | fadr s x => rw [← hLZ] at hr; exact hr
  | fn f caps =>
   obtain ⟨vs, q1, q2, q3⟩ := hr
   refine ⟨vs, q1, q2, fun i c u hc hu => ?_⟩
   obtain ⟨s, x, rfl, q4⟩ := q3 i c u hc hu
   show FaRep w L.Z s x u
   rw [hLZ]; exact q4
  | dead => trivial
  | h => exact (hr : False).elim
  | adr => exact (hr : False).elim
  | root => cases hnr
 obtain ⟨C0, D0, hCD⟩ : ∃ C0 D0, ∀ k s f x, A j = .root k s f x → ∃ B : Nat → Prop, RootAt w k s (vals.getD i undef) C0 D0 ∧ (∀ b, B b → F b) ∧ (∀ A, D0 = some A → ¬ B A.block ∧ F A.block) ∧ Rep w Z s f x C0 B := by
  rcases PV.root_or (A j) with ⟨k, s, f, x, hp⟩ | hp
  ·rw [hp] at hj
   obtain ⟨cs, ad, B, q⟩ := hj
   refine ⟨cs, ad, fun k' s' f' x' e => ?_⟩
   rw [hp] at e
   cases e
   exact ⟨B, by rw [hval2 i hil]; exact q.1, q.2⟩
  ·exact ⟨[], none, fun k s f x e => by rw [e] at hp; cases hp⟩
 let L0 : Lay := ⟨Z, fun t b => t = i ∧ F b ∧ (A j).isRoot = true, fun _ => C0, fun _ => D0⟩
 have hr0 : Rel L0 (args.set i (A j) ++ List.replicate (fn.ntmps - args.length) .dead) { tmps := vals.toArray ++ Array.replicate (fn.ntmps - vals.toArray.size) undef, defers := [] } w Free := by
  refine ⟨by simp [hl], rfl, hz, fun t b hb => hFz b hb.2.1, fun t t' b hb hb' => hb.1.trans hb'.1.symm, fun b hb => hb.elim, fun t b hb => id, fun t ht => ?_⟩
  rw [hAt]
  by_cases e : t = i
  ·subst e
   rw [if_pos rfl]
   show PVRep L0 _ w t (A j) ((vals.toArray ++ Array.replicate (fn.ntmps - vals.toArray.size) undef).getD t undef)
   rw [hval t hil]
   rcases PV.root_or (A j) with ⟨k, s, f, x, hp⟩ | hp
   ·obtain ⟨B, m1, m2, m3, m4⟩ := hCD k s f x hp
    rw [hp]
    exact ⟨m1, B, fun b hb => ⟨rfl, m2 b hb, by rw [hp]; rfl⟩, fun A1 hA1 => ⟨(m3 A1 hA1).1, rfl, (m3 A1 hA1).2, by rw [hp]; rfl⟩, m4⟩
   ·rw [PVRep.of hp]
    rw [hval2 t hil]
    exact hout rfl hp hj
  ·rw [if_neg e]
   by_cases hlt : t < args.length
   ·have hlv : t < vals.length := by omega
    have e1 : (args ++ List.replicate (fn.ntmps - args.length) PV.dead).getD t .dead = args[t] := by
     rw [List.getD_eq_getElem?_getD, List.getElem?_append_left hlt, List.getElem?_eq_getElem hlt]; rfl
    rw [e1]
    show PVRep L0 _ w t args[t] ((vals.toArray ++ Array.replicate (fn.ntmps - vals.toArray.size) undef).getD t undef)
    rw [hval t hlv, hval2 t hlv]
    have hA := ha t _ _ e (List.getElem?_eq_getElem hlt) (List.getElem?_eq_getElem hlv)
    have hnr : args[t].isRoot = false := by
     cases hpv : args[t] with
     | root => rw [hpv] at hA; exact hA.elim
     | _ => rfl
    rw [PVRep.of hnr]
    refine hout rfl hnr ?_
    cases hpv : args[t] with
    | root => rw [hpv] at hnr; cases hnr
    | _ => rw [hpv] at hA; exact hA
   ·have e1 : (args ++ List.replicate (fn.ntmps - args.length) PV.dead).getD t .dead = .dead := by
     rw [List.getD_eq_getElem?_getD, List.getElem?_append_right (by omega), List.getElem?_replicate]
     split <;> rfl
    rw [e1]; trivial
 refine wp_mono (h j _ _ w hr0) fun e a' w' ⟨L', st', s, r, he, pv, st2, ot, hp, ho, hR⟩ => ?_
 have hZU : ZUp w w' Z F L'.Z := ⟨s.Z.up, fun b hb => by
  rcases s.Z.nw b hb with q | ⟨t, q⟩ | q
  ·exact .inl q
  ·exact .inr ⟨.inl q.2.1, r.zlt b hb⟩
  ·exact .inr ⟨.inr q, r.zlt b hb⟩⟩
 have hnz : ∀ b, (∃ t, L'.F t b) → ¬ L'.Z b := fun b hb => by obtain ⟨t, ht⟩ := hb; exact (r.flt t b ht).2
 obtain ⟨v, hrun, L2, Rr, k1, k2, k3, k4, k5⟩ := vretX_ok hT r fn res hres hp
 have hF' : ∀ b, (∃ t, L'.F t b) → (F b ∨ w.heap.size ≤ b) ∧ b < w'.heap.size := fun b hb => by
  obtain ⟨t, ht⟩ := hb
  refine ⟨?_, (r.flt t b ht).1⟩
  rcases s.F t b ht with ⟨t', q⟩ | q
  ·exact .inl q.2.1
  ·exact .inr q
 have fin : a'.defers = [] ∧ ∃ v, (results fn a'.tmps).run P w' = .ok v w' ∧ ∃ v2 pv o, ∃ Fr Fo Z' : Nat → Prop, Ending.returned v = .returned v2 ∧ ExtF w w' F ∧ R pv o ∧ GRep w' Z' Fr pv v2 ∧ (∀ u, vals[i]? = some u → o = .dead ∨ GRep w' Z' Fo o u) ∧
   (∀ b, Fr b ∨ Fo b → (F b ∨ w.heap.size ≤ b) ∧ b < w'.heap.size) ∧ (∀ b, Fr b → ¬ Fo b) ∧ ZUp w w' Z F Z' ∧ ∀ b, Fr b ∨ Fo b → ¬ Z' b := by
  have hx : ExtF w w' F := ⟨s.os, s.tape, s.output, s.size, fun b hb hn => s.block b hb (fun t ht => hn ht.2.1)⟩
  rcases ho L2 a' w' Rr k1 w Z F _ hj with hd | ⟨g, hd⟩
  ·refine ⟨r.defers, v, hrun, v, pv, ot, Rr, Free, L'.Z, rfl, hx, hR, k5, fun u hu => .inl hd, fun b hb => ?_, fun b _ hb => hb.elim, hZU, fun b hb => ?_⟩
   ·rcases hb with hb | hb
    ·exact hF' b (k4 b hb)
    ·exact hb.elim
   ·rcases hb with hb | hb
    ·exact hnz b (k4 b hb)
    ·exact hb.elim
  ·refine ⟨r.defers, v, hrun, v, pv, ot, Rr, L2.F g, L'.Z, rfl, hx, hR, k5, fun u hu => .inr ?_, fun b hb => ?_, fun b h1 h2 => k1.rdj g b h2 h1, hZU, fun b hb => ?_⟩
   ·rw [List.getElem?_eq_getElem hil] at hu
    obtain rfl := Option.some.inj hu
    rw [k2] at hd
    exact hd
   ·rcases hb with hb | hb
    ·exact hF' b (k4 b hb)
    ·exact hF' b (k3 g b hb)
   ·rcases hb with hb | hb
    ·exact hnz b (k4 b hb)
    ·exact hnz b (k3 g b hb)
 rcases he with rfl | rfl
 ·exact fin
 ·exact fin
/-- a box that is handed over -/
theorem VX.of_box (hT : TabOk P T) {f : FuncId} {fn : Func} {c : Code} {args : List PV} {i : Nat} {t : TypeId} {s : Sh} {fl : Fl} {x : s.ty} {R : PV → PV → Prop} (hf : P.funcs[f]? = some fn) (hb : fn.body = some c) (hnm : (fn.name == "runtime.NumGoroutine") = false) (res : List (ResultVar × Bool × Sh)) (hres : fn.results.toList = res.map fun q => q.1)
  (hi : args[i]? = some (.root (.box t) s fl x))
  (h : ∀ b : Nat, VW P c (args.set i (.root (.ibox t b) s fl x) ++ List.replicate (fn.ntmps - args.length) .dead) (fun e st => (e = .ret ∨ e = .normal) ∧ ∃ pv st2 f' x', vretX T st res = some (pv, st2) ∧ (∃ g, st2.at g = .root (.ibox t b) s f' x') ∧ R pv (.root (.box t) s f' x'))) : VX P f args i R := by
 refine VX.of_body hT hf hb hnm res hres (fun b : Nat => .root (.ibox t b) s fl x) (fun pvi hp w Z F v hg => ?_) (fun b => ?_) (List.getElem?_eq_some_iff.1 hi).1
 ·rw [hi] at hp
  obtain rfl := Option.some.inj hp
  obtain ⟨cs, ad, B, ⟨b, q1, q2, q3⟩, r⟩ := hg
  exact ⟨b, cs, ad, B, ⟨q1, q2, q3⟩, r⟩
 ·exact (h b).mono fun e st ⟨he, pv, st2, f', x', h1, ⟨g, h2⟩, h3⟩ => ⟨he, pv, st2, _, h1, OutOk.box h2, h3⟩
/-- rows that are handed over -/
theorem VX.of_rows (hT : TabOk P T) {f : FuncId} {fn : Func} {c : Code} {args : List PV} {i : Nat} {agg : Bool} {s : Sh} {fl : Fl} {x : s.ty} {R : PV → PV → Prop} (hf : P.funcs[f]? = some fn) (hb : fn.body = some c) (hnm : (fn.name == "runtime.NumGoroutine") = false) (res : List (ResultVar × Bool × Sh)) (hres : fn.results.toList = res.map fun q => q.1)
  (hi : args[i]? = some (.root (.val agg) s fl x)) (hown : Fl.allown s fl = true) (hfull : fullV s x)
  (h : ∀ (l : List (Nat × Nat)) (fi : Fl) (li : List Value), (tagF s l).1 = fi → encI s fi x = some li → VW P c (args.set i (.root (.val agg) s fi x) ++ List.replicate (fn.ntmps - args.length) .dead) (fun e st => (e = .ret ∨ e = .normal) ∧ ∃ pv st2 f' x', vretX T st res = some (pv, st2) ∧ (∃ g k, st2.at g = .root k s f' x') ∧ encI s f' x' = some li ∧ R pv (.root (.val agg) s (Fl.untag s f') x'))) : VX P f args i R := by
 refine VX.of_body hT hf hb hnm res hres (fun l : {l : List (Nat × Nat) × List Value // encI s (tagF s l.1).1 x = some l.2} => .root (.val agg) s (tagF s l.1.1).1 x) (fun pvi hp w Z F v hg => ?_) (fun l => ?_) (List.getElem?_eq_some_iff.1 hi).1
 ·rw [hi] at hp
  obtain rfl := Option.some.inj hp
  obtain ⟨cs, ad, B, q1, q2, q3, q4⟩ := hg
  obtain ⟨l, m1, m2, li, m3⟩ := q4.tag hown hfull []
  rw [List.append_nil] at m1 m2 m3
  exact ⟨⟨(l, li), m3⟩, cs, ad, B, q1, q2, q3, m1⟩
 ·exact (h l.1.1 _ _ rfl l.2).mono fun e st ⟨he, pv, st2, f', x', h1, ⟨g, k, h2⟩, h4, h5⟩ => ⟨he, pv, st2, _, h1, OutOk.val h2 l.2 h4, h5⟩
theorem io1 {e : TypeId} {s : Sh} {x : (Sh.sl e s).ty} {l : List (Nat × Nat)} {fi : Fl} {li : List Value} (h : (tagF (.sl e s) l).1 = fi) (k : encI (.sl e s) fi x = some li) : ∃ n c, fi = .io n c ∧ li = [.slice (some ⟨n, 0, none⟩) (List.length (α := s.ty) x) c] := by
 cases l with
 | nil => subst h; cases k
 | cons q l =>
  obtain ⟨n, c⟩ := q
  subst h
  exact ⟨n, c, rfl, (Option.some.inj k).symm⟩
/-- memory that is given for good -/
theorem VX.of_moved (hT : TabOk P T) {f : FuncId} {fn : Func} {c : Code} {args : List PV} {i : Nat} {R : PV → PV → Prop} (hf : P.funcs[f]? = some fn) (hb : fn.body = some c) (hnm : (fn.name == "runtime.NumGoroutine") = false) (res : List (ResultVar × Bool × Sh)) (hres : fn.results.toList = res.map fun q => q.1) (hi : i < args.length)
  (h : VW P c (args ++ List.replicate (fn.ntmps - args.length) .dead) (fun e st => (e = .ret ∨ e = .normal) ∧ ∃ pv st2, vretX T st res = some (pv, st2) ∧ R pv .dead)) : VX P f args i R := by
 refine VX.of_body hT hf hb hnm res hres (fun _ : Unit => args.getD i .dead) (fun pvi hp w Z F v hg => ⟨(), by rw [List.getD_eq_getElem?_getD, hp]; exact hg⟩) (fun b => ?_) hi
 have e : args.set i (args.getD i .dead) = args := by
  rw [List.getD_eq_getElem?_getD, List.getElem?_eq_getElem hi]
  exact List.set_getElem_self hi
 rw [e]
 exact h.mono fun e st ⟨he, pv, st2, h1, h3⟩ => ⟨he, pv, st2, _, h1, OutOk.dead, h3⟩
theorem encI_len : ∀ {s : Sh} {f : Fl} {x : s.ty} {l : List Value}, encI s f x = some l → l.length = s.size
 | .unit, _, _, _, h => by rw [← Option.some.inj h]; rfl
 | .int _, _, _, _, h => by rw [← Option.some.inj h]; rfl
 | .bool, _, _, _, h => by rw [← Option.some.inj h]; rfl
 | .str, _, _, _, h => by rw [← Option.some.inj h]; rfl
 | .pr a b, f, x, l, h => by
  simp only [encI] at h
  split at h
  ·rename_i c d h1 h2
   rw [← Option.some.inj h, List.length_append, encI_len h1, encI_len h2]; rfl
  ·cases h
 | .sl e s, f, x, l, h => by
  cases f with
  | io n c => rw [← Option.some.inj h]; rfl
  | kz A c => rw [← Option.some.inj h]; rfl
  | _ => simp [encI] at h
theorem Rep.retag {w : World} {Z : Nat → Prop} : ∀ {s : Sh} {f : Fl} {x : s.ty} {cs : List Value} {B : Nat → Prop}, Rep w Z s (Fl.untag s f) x cs B → V.encI s f x = some cs → Rep w Z s f x cs B
 | .unit, _, _, _, _, h, _ => h
 | .int _, _, _, _, _, h, _ => h
 | .bool, _, _, _, _, h, _ => h
 | .str, _, _, _, _, h, _ => h
 | .pr a b, f, x, cs, B, ⟨c1, c2, B1, B2, h0, h1, h2, h3, h4, h5⟩, k => by
  simp only [V.encI] at k
  split at k
  ·rename_i c d k1 k2
   have e := Option.some.inj k
   rw [h0] at e
   have hl : c.length = c1.length := (encI_len k1).trans h4.len.symm
   obtain ⟨rfl, rfl⟩ := List.append_inj e hl
   exact ⟨_, _, B1, B2, h0, h1, h2, h3, h4.retag k1, h5.retag k2⟩
  ·cases k
 | .sl e s, f, x, cs, B, h, k => by
  cases f with
  | io n c => exact ⟨h, (Option.some.inj k).symm⟩
  | kz A c => exact ⟨h, (Option.some.inj k).symm⟩
  | _ => simp [V.encI] at k
/-- known rows handed on -/
theorem VX.tag {f : FuncId} {args : List PV} {i : Nat} {agg : Bool} {s : Sh} {fi f0 : Fl} {x : s.ty} {l : List Value} {R : PV → PV → Prop} (h : VX P f args i R) (ha : args[i]? = some (.root (.val agg) s f0 x)) (hu : Fl.untag s fi = f0) (he : encI s fi x = some l) :
  VX P f (args.set i (.root (.val agg) s fi x)) i (fun pv ot => ∃ ot0, R pv ot0 ∧ ((∃ y, ot0 = .root (.val agg) s f0 y ∧ encI s fi y = some l ∧ ot = .root (.val agg) s fi y) ∨ ((∀ y, ot0 = .root (.val agg) s f0 y → encI s fi y ≠ some l) ∧ ot = ot0))) := by
 subst hu
 refine ⟨h.fn, fun Z F w vals h1 h2 h3 h4 h5 => ?_⟩
 have hi := (List.getElem?_eq_some_iff.1 ha).1
 have h3 : vals.length = args.length := by simpa using h3
 have hil : i < vals.length := by omega
 obtain ⟨cs, ad, B, q1, q2, q3, q4⟩ := h5 _ _ (List.getElem?_set_self hi) (List.getElem?_eq_getElem hil)
 have hcs := q4.encI he
 refine (h.run Z F w vals h1 h2 h3 (fun j pv v hj hp hv => h4 j pv v hj (by rw [List.getElem?_set_ne (fun e => hj e.symm)]; exact hp) hv) (fun pv v hp hv => ?_)).mono fun e w' ⟨v, pv, o, Fr, Fo, Z2, c1, c2, c3, c4, c5, c6⟩ => ?_
 ·rw [ha] at hp
  obtain rfl := Option.some.inj hp
  rw [List.getElem?_eq_getElem hil] at hv
  obtain rfl := Option.some.inj hv
  exact ⟨cs, ad, B, q1, q2, q3, q4.untag⟩
 ·by_cases hy : ∃ y, o = .root (.val agg) s (Fl.untag s fi) y ∧ encI s fi y = some l
  ·obtain ⟨y, rfl, hy⟩ := hy
   refine ⟨v, pv, _, Fr, Fo, Z2, c1, c2, ⟨_, c3, .inl ⟨y, rfl, hy, rfl⟩⟩, c4, fun u hu => .inr ?_, c6⟩
   obtain ⟨cs2, ad2, B2, g1, g2, g3, g4⟩ := (c5 u hu).resolve_left (by simp)
   have hu' := hu
   rw [List.getElem?_eq_getElem hil] at hu'
   obtain rfl := Option.some.inj hu'
   have e : cs2 = cs := mkV_inj g1.1 q1.1
   refine ⟨cs2, ad2, B2, g1, g2, g3, g4.retag ?_⟩
   rw [hy, e, hcs]
  ·exact ⟨v, pv, o, Fr, Fo, Z2, c1, c2, ⟨o, c3, .inr ⟨fun y h1 h2 => hy ⟨y, h1, h2⟩, rfl⟩⟩, c4, c5, c6⟩
theorem VX.tag1 {f : FuncId} {args : List PV} {i : Nat} {agg : Bool} {s : Sh} {fi f0 : Fl} {x y : s.ty} {l : List Value} {a : PV} (h : VX P f args i (fun pv ot => pv = a ∧ ot = .root (.val agg) s f0 y)) (ha : args[i]? = some (.root (.val agg) s f0 x)) (hu : Fl.untag s fi = f0) (he : encI s fi x = some l) (he' : encI s fi y = some l) :
  VX P f (args.set i (.root (.val agg) s fi x)) i (fun pv ot => pv = a ∧ ot = .root (.val agg) s fi y) := by
 refine (h.tag ha hu he).mono fun pv ot ⟨ot0, ⟨h1, h2⟩, h3⟩ => ⟨h1, ?_⟩
 rcases h3 with ⟨y', e1, e2, e3⟩ | ⟨h3, _⟩
 ·rw [h2] at e1
  cases e1
  exact e3
 ·exact absurd he' (h3 y h2)
end
end Go.Proofs.YtoeblmcibheldaaGreatDoor.V
end
section
/- Regions that run in any order, with a tail that comes behind all else (writes, calls that write) and with moves that may come at any time. No condition. -/
namespace Go.Proofs.YtoeblmcibheldaaGreatDoor.V
open Go Go.RowKit
def floatOk (ops : Array Oper) : Nat → Nat → Array Bool → Bool
 | 0, _, _ => true
 | f + 1, k, listed => (Region.ready .any ops listed).contains k && Region.free .any ops listed k && floatOk ops f (k + 1) (listed.setIfInBounds k true)
def unavB (ops : Array Oper) (f n i : Nat) : List Nat := (List.range ops.size).filterMap fun j => if (anc ops i).contains j || decide (j < f) || decide (n ≤ j) then none else (ops[j]?).bind (·.dst)
def guardOkB (ops : Array Oper) (U : List Nat) (o : Oper) : Bool := match o.guard with
 | none => true
 | some (j, _) => match (ops[j]?).bind (·.dst) with
  | none => true
  | some d => !U.contains d
def mixOk (ops : Array Oper) (f n : Nat) : Bool := Region.noSelect ops && decide (f ≤ n) && decide (n ≤ ops.size) && floatOk ops f 0 (Array.replicate ops.size false) &&
  (List.range ops.size).all fun i => match ops[i]? with
  | none => true
  | some o => o.after.toList.all (fun e => !Region.binds .any e || decide (e.on < i)) && (decide (i < f) ||
    (if i < n then (reads o).all (fun t => !(unavB ops f n i).contains t) && guardOkB ops (unavB ops f n i) o && (List.range ops.size).all fun j => decide (j = i) || decide (j < f) || decide (n ≤ j) || match o.dst, (ops[j]?).bind (·.dst) with
        | some d, some d' => decide (d ≠ d')
        | _, _ => true
     else (List.range i).all fun j => decide (j < f) || (anc ops i).contains j))
/-- a move, or whole numbers reckoned -/
def pureOp (st : St) (o : Oper) : Option PV :=
 match o.guard with
 | some _ => none
 | none => match o.op with
  | .move x => match ref st x with
   | .dead => none
   | pv => some pv
  | .binOp .sub _ x y _ => match ref st x, ref st y with
   | .v false (.int k) a, .v false (.int k') b => if k = k' then some (.v false (.int k) (k.wrap (a - b))) else none
   | _, _ => none
  | .binOp .add _ x y _ => match ref st x, ref st y with
   | .v false (.int k) a, .v false (.int k') b => if k = k' then some (.v false (.int k) (k.wrap (a + b))) else none
   | _, _ => none
  | _ => none
def vsel (i f n : Nat) [A : Hd (Unit → Prop)] [B : Hd (Unit → Prop)] [C : Hd (Unit → Prop)] : Prop := if i < f then A.val () else if i < n then B.val () else C.val ()
theorem vs_a {i f n : Nat} {A B C : Unit → Prop} (h : i < f) : @vsel i f n ⟨A⟩ ⟨B⟩ ⟨C⟩ = A () := by simp [vsel, h]
theorem vs_b {i f n : Nat} {A B C : Unit → Prop} (h : ¬ i < f) (h2 : i < n) : @vsel i f n ⟨A⟩ ⟨B⟩ ⟨C⟩ = B () := by simp [vsel, h, h2]
theorem vs_c {i f n : Nat} {A B C : Unit → Prop} (h : ¬ i < f) (h2 : ¬ i < n) : @vsel i f n ⟨A⟩ ⟨B⟩ ⟨C⟩ = C () := by simp [vsel, h, h2]
def vfloat (q : Option PV) [K : Hd (PV → Prop)] : Prop := match q with
 | some pv => K.val pv
 | none => False
def vmix (P : Program) (T : List (Nat × TI)) (ops : Array Oper) (f n : Nat) : Nat → List Oper → St → (St → Prop) → Prop
 | _, [], st, K => K st
 | i, o :: r, st0, K => @vsel i f n ⟨fun _ => @vfloat (pureOp st0 o) ⟨fun pv => nonroot st0 o.dst = true ∧ vmix P T ops f n (i + 1) r (setD st0 o.dst pv) K⟩⟩
  ⟨fun _ => @vguard st0 ops o ⟨fun run st => match run with
   | true => mentOk (unavB ops f n i) st o = true ∧ nonroot st o.dst = true ∧ @vreadD P T st o ⟨fun pv => vmix P T ops f n (i + 1) r (setD st o.dst pv) K⟩
   | false => nonroot st o.dst = true ∧ vmix P T ops f n (i + 1) r (setD st o.dst skipPV) K⟩⟩
  ⟨fun _ => @vguard st0 ops o ⟨fun run st => match run with
   | true => @vread P T st o ⟨fun st1 pv => nonroot st1 o.dst = true ∧ vmix P T ops f n (i + 1) r (setD st1 o.dst pv) K⟩
   | false => nonroot st o.dst = true ∧ vmix P T ops f n (i + 1) r (setD st o.dst skipPV) K⟩⟩
section
variable {P : Program} {T : List (Nat × TI)} {ops : Array Oper} {f n : Nat}
theorem mixOk_spec (hD : mixOk ops f n = true) : Region.noSelect ops = true ∧ f ≤ n ∧ n ≤ ops.size ∧ floatOk ops f 0 (Array.replicate ops.size false) = true ∧ ∀ (i : Nat) (o : Oper), ops[i]? = some o →
  (∀ e ∈ o.after.toList, Region.binds .any e = true → e.on < i) ∧ (f ≤ i → i < n → (∀ t ∈ reads o, t ∉ unavB ops f n i) ∧ guardOkB ops (unavB ops f n i) o = true ∧ ∀ (j : Nat) (o' : Oper) (d : Nat), ops[j]? = some o' → j ≠ i → f ≤ j → j < n → o.dst = some d → o'.dst ≠ some d) ∧
  (f ≤ i → n ≤ i → ∀ j, f ≤ j → j < i → j ∈ anc ops i) := by
 simp only [mixOk, Bool.and_eq_true, decide_eq_true_eq] at hD
 obtain ⟨⟨⟨⟨h1, h2⟩, h3⟩, h4⟩, h5⟩ := hD
 refine ⟨h1, h2, h3, h4, fun i o ho => ?_⟩
 have hlt : i < ops.size := (Array.getElem?_eq_some_iff.1 ho).1
 have hd := List.all_eq_true.1 h5 i (List.mem_range.2 hlt)
 rw [ho] at hd
 simp only [Bool.and_eq_true, Bool.or_eq_true, decide_eq_true_eq] at hd
 obtain ⟨d1, d2⟩ := hd
 refine ⟨fun e he hb => ?_, fun hf hn => ?_, fun hf hn j hj hji => ?_⟩
 ·have := List.all_eq_true.1 d1 e he
  simpa [hb] using this
 ·have d2 := d2.resolve_left (by omega)
  rw [if_pos hn] at d2
  simp only [Bool.and_eq_true] at d2
  obtain ⟨⟨e1, e2⟩, e3⟩ := d2
  refine ⟨fun t ht => ?_, e2, fun j o' d ho' hj hfj hjn hdst hdst' => ?_⟩
  ·have := List.all_eq_true.1 e1 t ht
   simpa using this
  ·have hj' : j < ops.size := (Array.getElem?_eq_some_iff.1 ho').1
   have := List.all_eq_true.1 e3 j (List.mem_range.2 hj')
   have a1 : ¬ j < f := by omega
   have a2 : ¬ n ≤ j := by omega
   rw [ho'] at this
   simp [hj, hdst, hdst', a1, a2] at this
 ·have d2 := d2.resolve_left (by omega)
  rw [if_neg (by omega)] at d2
  have := List.all_eq_true.1 d2 j (List.mem_range.2 hji)
  have a1 : ¬ j < f := by omega
  simpa [a1] using this
theorem anc_listedB (hD : mixOk ops f n = true) {listed : Array Bool} (hc : ∀ (i : Nat) (o : Oper), ops[i]? = some o → listed.getD i false = true → ∀ e ∈ o.after.toList, Region.binds .any e = true → listed.getD e.on false = true) :
  ∀ (i : Nat) (o : Oper), ops[i]? = some o → (∀ e ∈ o.after.toList, Region.binds .any e = true → listed.getD e.on false = true) → ∀ m ∈ anc ops i, m < i ∧ listed.getD m false = true := by
 intro i
 induction i using Nat.strongRecOn with
 | _ i ih =>
  intro o ho hl m hm
  have hlt := ((mixOk_spec hD).2.2.2.2 i o ho).1
  obtain ⟨e, e1, e2, e3⟩ := anc_mem ho hlt hm
  have h1 := hlt e e1 e2
  rcases e3 with rfl | e3
  ·exact ⟨h1, hl e e1 e2⟩
  ·have hi : i < ops.size := (Array.getElem?_eq_some_iff.1 ho).1
   have ho2 : ops[e.on]? = some ops[e.on] := Array.getElem?_eq_getElem (by omega)
   obtain ⟨q1, q2⟩ := ih e.on h1 _ ho2 (hc e.on _ ho2 (hl e e1 e2)) m e3
   exact ⟨by omega, q2⟩
inductive TrB (P : Program) (ops : Array Oper) (U : Nat → List Nat) : Nat → List Oper → St → St → Prop
 | nil {i : Nat} {st : St} : TrB P ops U i [] st st
 | step {i : Nat} {o : Oper} {r : List Oper} {st F : St} {pv : PV} : Sure P ops o (U i) st pv → nonroot st o.dst = true → TrB P ops U (i + 1) r (setD st o.dst pv) F → TrB P ops U i (o :: r) st F
theorem trB_facts {U : Nat → List Nat} : ∀ {i : Nat} {os : List Oper} {st F : St}, TrB P ops U i os st F → F.length = st.length ∧ (∀ t, (∀ o ∈ os, o.dst ≠ some t) → F.at t = st.at t) ∧
  ∀ (k : Nat) (o : Oper), os[k]? = some o → ∃ s pv, Sure P ops o (U (i + k)) s pv ∧ nonroot s o.dst = true ∧ s.length = st.length ∧ (∀ t, (∀ (j : Nat) (o' : Oper), j < k → os[j]? = some o' → o'.dst ≠ some t) → s.at t = st.at t) ∧
   ∀ t, (∀ (j : Nat) (o' : Oper), k < j → os[j]? = some o' → o'.dst ≠ some t) → (setD s o.dst pv).at t = F.at t := by
 intro i os st F h
 induction h with
 | nil => exact ⟨rfl, fun _ _ => rfl, fun k o hk => by simp at hk⟩
 | @step i o r st F pv hs hn ht ih =>
  obtain ⟨l1, l2, l3⟩ := ih
  refine ⟨by rw [l1, setD_len], fun t htt => ?_, fun k o' hk => ?_⟩
  ·rw [l2 t fun o' ho' => htt o' (List.mem_cons_of_mem _ ho'), setD_at (htt o List.mem_cons_self)]
  ·cases k with
   | zero =>
    simp only [List.getElem?_cons_zero, Option.some.injEq] at hk
    subst hk
    refine ⟨st, pv, hs, hn, rfl, fun _ _ => rfl, fun t htt => ?_⟩
    rw [l2 t fun o' ho' => ?_]
    obtain ⟨j, hj⟩ := List.mem_iff_getElem?.1 ho'
    exact htt (j + 1) o' (by omega) (by simpa using hj)
   | succ k =>
    simp only [List.getElem?_cons_succ] at hk
    obtain ⟨s, pv', q1, q2, q3, q4, q5⟩ := l3 k o' hk
    refine ⟨s, pv', by rw [show i + (k + 1) = i + 1 + k by omega]; exact q1, q2, by rw [q3, setD_len], fun t htt => ?_, fun t htt => ?_⟩
    ·rw [q4 t fun j o2 hj ho2 => htt (j + 1) o2 (by omega) (by simpa using ho2), setD_at (htt 0 o (by omega) (by simp))]
    ·exact q5 t fun j o2 hj ho2 => htt (j + 1) o2 (by omega) (by simpa using ho2)
/-- one operation of the head -/
theorem vhead_sure (hT : TabOk P T) {U : List Nat} {o : Oper} (hreads : ∀ t ∈ reads o, t ∉ U) (hguard : guardOkB ops U o = true) {st0 : St} {K : PV → St → Prop}
  (hv : @vguard st0 ops o ⟨fun run st => match run with
   | true => mentOk U st o = true ∧ nonroot st o.dst = true ∧ @vreadD P T st o ⟨fun pv => K pv st⟩
   | false => nonroot st o.dst = true ∧ K skipPV st⟩) : ∃ pv, Sure P ops o U st0 pv ∧ nonroot st0 o.dst = true ∧ K pv st0 := by
 have hgd : ∀ (st' : St), (∀ t, t ∉ U → st'.at t = st0.at t) → ∀ (j : Nat) (want : Bool) (d : Nat), o.guard = some (j, want) → (ops[j]?).bind (·.dst) = some d → st'.at d = st0.at d := fun st' hst j want d hg hd => hst d (by
  unfold guardOkB at hguard
  rw [hg] at hguard
  simp only [hd] at hguard
  simpa using hguard)
 obtain ⟨rn, h1, h2⟩ := vguard_spec hv
 cases rn with
 | true =>
  have hw : ∀ (st' : St) (L : Lay) (a : Act) (w : World), (∀ t, t ∉ U → st'.at t = st0.at t) → Rel L st' a w Free → Region.wanted o (yielded ops a.tmps) = true := fun st' L a w hag hrel => h2 st' L a w _ (hgd st' hag) hrel
  obtain ⟨hm, hn, hr⟩ := h1
  have hment : ∀ x ∈ o.op.operands.toList, ∀ g ∈ ments (ref st0 x), g ∉ U := fun x hx g hg => by
   have := List.all_eq_true.1 (List.all_eq_true.1 hm x hx) g hg
   simpa using this
  have fin : ∀ pv, (∀ st', (∀ t, t ∉ U → st'.at t = st0.at t) → nonroot st' o.dst = true → Does P o st' (· = setD st' o.dst pv)) → K pv st0 → ∃ pv, Sure P ops o U st0 pv ∧ nonroot st0 o.dst = true ∧ K pv st0 := by
   intro pv hdo hv'
   refine ⟨pv, fun st' h1 h2 L a w next Q hrel hk => ?_, hn, hv'⟩
   rw [if_pos (hw st' L a w h1 hrel)]
   exact .inl (hdo st' h1 h2 L a w next Q hrel fun st2 L' a' w' e s r' => by subst e; exact hk L' a' w' s r')
  unfold vreadD at hr
  split at hr
  ·rename_i fop args ts hop
   split at hr
   ·rename_i fid caps hf
    split at hr
    ·rename_i cs ps b hcs hps
     obtain ⟨pv, hvc, hok, hv'⟩ := hr
     refine fin pv (fun st' h1 h2 => ?_) hv'
     have hargs : ∀ x ∈ args.toList, x ∈ o.op.operands.toList := fun x hx => by simp [hop, Op.operands, Call.operands]; exact .inr (by simpa using hx)
     have hfop : fop ∈ o.op.operands.toList := by simp [hop, Op.operands, Call.operands]
     have hag : ∀ t ∈ reads o, st'.at t = st0.at t := fun t ht => h1 t (hreads t ht)
     have hf' : ref st' fop = .fn fid caps := by rw [(ref_eq hag hfop).1, hf]
     have hcs' : lendCaps st' caps = some cs := by
      rw [lendCaps_eq caps fun g p hmem => h1 g (hment fop hfop g (by rw [hf]; exact ments_fn hmem)), hcs]
     have hps' : lendAll st' st' args.toList = some (ps, b) := by
      rw [lendAll_eq args.toList (fun x hx => (ref_eq hag (hargs x hx)).1) (fun x hx g hg => h1 g (hment x (hargs x hx) g hg)), hps]
     intro L a w next Q hrel hk
     exact does_call (fun _ _ _ _ _ h => h) hop hf' hcs' hps' hvc h2 (fun pv' e => by subst e; exact hok) L a w next Q hrel fun st2 L' a' w' ⟨pv', e1, e2⟩ s r' => by
      subst e1
      exact hk st2 L' a' w' e2 s r'
    ·exact hr.elim
   ·exact hr.elim
  ·split at hr
   ·rename_i out hp
    obtain ⟨hc, hcl, hv'⟩ := hr
    refine fin out.pv (fun st' h1 h2 => ?_) hv'
    have hag : ∀ t ∈ reads o, st'.at t = st0.at t := fun t ht => h1 t (hreads t ht)
    have h3 := pop_loc hp hcl hag
    have h4 : pop T st' st' o = some ⟨out.c, true, st', out.pv⟩ := by
     rw [pop_rt (rt := st0) (rt' := st') (fun x hx g hg => h1 g (hment x hx g (by rwa [(ref_eq hag hx).1] at hg))) hag]
     exact h3
    exact does_pop hT (fun _ _ _ _ _ h => h) h4 hc h2
   ·obtain ⟨pv, hv', hdo⟩ := hr
    exact fin pv (fun st' h1 h2 => hdo st' (fun t ht => h1 t (hreads t ht)) h2) hv'
 | false =>
  obtain ⟨hn, hv'⟩ := h1
  refine ⟨skipPV, fun st' h1' h2' L a w next Q hrel hk => ?_, hn, hv'⟩
  rw [if_neg (by rw [h2 st' L a w _ (hgd st' h1') hrel]; simp)]
  obtain ⟨L', s1, s2⟩ := skip_ok hrel h2'
  exact hk L' _ w s1 s2
theorem vmix_tr (hT : TabOk P T) (hD : mixOk ops f n = true) {K : St → Prop} : ∀ (os : List Oper) (i : Nat), ops.toList.drop i = os → f ≤ i → i ≤ n → ∀ {st : St}, vmix P T ops f n i os st K →
  ∃ F, TrB P ops (unavB ops f n) i (os.take (n - i)) st F ∧ vmix P T ops f n n (ops.toList.drop n) F K
 | [], i, hi, hfi, hin, st, hv => by
  refine ⟨st, by rw [List.take_nil]; exact .nil, ?_⟩
  have : ops.toList.drop n = [] := by
   have h1 : ops.size ≤ i := by simpa using hi
   simp; omega
  rw [this]
  simpa [vmix] using hv
 | o :: r, i, hi, hfi, hin, st, hv => by
  have ho : ops[i]? = some o := by
   have : (ops.toList.drop i)[0]? = some o := by rw [hi]; rfl
   rw [List.getElem?_drop] at this
   simpa using this
  by_cases hn : i < n
  ·have hi' : ops.toList.drop (i + 1) = r := by rw [← List.drop_drop, hi]; rfl
   unfold vmix at hv
   rw [vs_b (by omega) hn] at hv
   obtain ⟨_, h2, _⟩ := (mixOk_spec hD).2.2.2.2 i o ho
   obtain ⟨h3, h4, _⟩ := h2 hfi hn
   obtain ⟨pv, q1, q2, q3⟩ := vhead_sure hT h3 h4 (K := fun pv st => vmix P T ops f n (i + 1) r (setD st o.dst pv) K) hv
   obtain ⟨F, f1, f2⟩ := vmix_tr hT hD r (i + 1) hi' (by omega) (by omega) q3
   refine ⟨F, ?_, f2⟩
   rw [show n - i = (n - (i + 1)) + 1 by omega, List.take_succ_cons]
   exact .step q1 q2 f1
  ·obtain rfl : i = n := by omega
   refine ⟨st, by rw [Nat.sub_self, List.take_zero]; exact .nil, ?_⟩
   rw [hi]; exact hv
structure InvB (P : Program) (ops : Array Oper) (f n : Nat) (st F : St) (listed : Array Bool) (st' : St) : Prop where
 size : listed.size = ops.size
 closed : ∀ (i : Nat) (o : Oper), ops[i]? = some o → listed.getD i false = true → ∀ e ∈ o.after.toList, Region.binds .any e = true → listed.getD e.on false = true
 low : ∀ i, i < f → listed.getD i false = true
 high : ∀ i, n ≤ i → listed.getD i false = false
 len : st'.length = st.length
 old : ∀ t, (∀ (j : Nat) (o : Oper), f ≤ j → ops[j]? = some o → listed.getD j false = true → o.dst ≠ some t) → st'.at t = st.at t
 new : ∀ (j : Nat) (o : Oper) (t : Nat), f ≤ j → ops[j]? = some o → listed.getD j false = true → o.dst = some t → st'.at t = F.at t
theorem ready_iff {listed : Array Bool} {i : Nat} (hs : listed.size = ops.size) : i ∈ Region.ready .any ops listed ↔ ∃ o, ops[i]? = some o ∧ listed.getD i false = false ∧ ∀ e ∈ o.after.toList, Region.binds .any e = true → listed.getD e.on false = true := by
 rw [mem_ready]
 constructor
 ·rintro ⟨h0, o, ho, h⟩
  have hi : i < listed.size := by rw [hs]; exact (Array.getElem?_eq_some_iff.1 ho).1
  refine ⟨o, ho, by simpa [Array.getD, hi] using h0, fun e he hb => h e (by simpa using he) hb⟩
 ·rintro ⟨o, ho, h0, h⟩
  have hi : i < listed.size := by rw [hs]; exact (Array.getElem?_eq_some_iff.1 ho).1
  exact ⟨by simpa [Array.getD, hi] using h0, o, ho, fun e he hb => h e (by simpa using he) hb⟩
theorem getD_setB {listed : Array Bool} {i : Nat} (hi : i < listed.size) (k : Nat) : (listed.setIfInBounds i true).getD k false = if k = i then true else listed.getD k false := by
 simp only [Array.getD_eq_getD_getElem?, Array.getElem?_setIfInBounds]
 by_cases e : i = k
 ·subst e; simp [hi]
 ·have e' : ¬ k = i := fun h => e h.symm
  simp [e, e']
/-- the tail runs as it is listed -/
theorem tailB_ok (hT : TabOk P T) (hD : mixOk ops f n = true) {Q : Exit → Act → World → Prop} {L0 : Lay} {w0 : World} {K : St → Prop} (hQ : ∀ L st a w, Stp L0 L w0 w → Rel L st a w Free → K st → Q .normal a w) :
  ∀ (os : List Oper) (k : Nat), ops.toList.drop k = os → n ≤ k → ∀ (listed : Array Bool) (L : Lay) (st : St) (a : Act) (w : World), listed.size = ops.size → (∀ j, j < ops.size → listed.getD j false = decide (j < k)) → vmix P T ops f n k os st K → Rel L st a w Free → Stp L0 L w0 w → wpAny P .any ops Q os.length listed a w
 | [], k, hi, hk, listed, L, st, a, w, hs, hl, hv, hr, hst => by
  have hsz : ops.size ≤ k := by simpa using hi
  refine ⟨?_, hQ L st a w hst hr (by simpa [vmix] using hv)⟩
  rw [List.eq_nil_iff_forall_not_mem]
  intro i hi
  obtain ⟨o, ho, h1, _⟩ := (ready_iff hs).1 hi
  have hlt := (Array.getElem?_eq_some_iff.1 ho).1
  rw [hl i hlt] at h1
  have : i < k := by omega
  simp [this] at h1
 | o :: r, k, hi, hk, listed, L, st, a, w, hs, hl, hv, hr, hst => by
  have ho : ops[k]? = some o := by
   have : (ops.toList.drop k)[0]? = some o := by rw [hi]; rfl
   rw [List.getElem?_drop] at this
   simpa using this
  have hi' : ops.toList.drop (k + 1) = r := by rw [← List.drop_drop, hi]; rfl
  have hklt : k < ops.size := (Array.getElem?_eq_some_iff.1 ho).1
  obtain ⟨_, hfn, hns, _, hsp⟩ := mixOk_spec hD
  have hready : k ∈ Region.ready .any ops listed := (ready_iff hs).2 ⟨o, ho, by rw [hl k hklt]; simp, fun e he hb => by
   have := (hsp k o ho).1 e he hb
   rw [hl _ (by omega)]
   simpa using this⟩
  have honly : ∀ i ∈ Region.ready .any ops listed, i = k := by
   intro i hi
   obtain ⟨oi, hoi, h1, h2⟩ := (ready_iff hs).1 hi
   have hlt := (Array.getElem?_eq_some_iff.1 hoi).1
   rw [hl i hlt] at h1
   have hge : k ≤ i := by simpa using h1
   refine Classical.byContradiction fun hne => ?_
   have hkl : k < i := by omega
   have hm := (hsp i oi hoi).2.2 (by omega) (by omega) k (by omega) hkl
   have := (anc_listedB hD (fun i' o' ho' hl' e he hb => ?_) i oi hoi h2 k hm).2
   ·rw [hl k hklt] at this; simp at this
   ·have hlt' := (Array.getElem?_eq_some_iff.1 ho').1
    rw [hl i' hlt'] at hl'
    have h3 := (hsp i' o' ho').1 e he hb
    rw [hl _ (by omega)]
    have : i' < k := by simpa using hl'
    simp; omega
  have hl' : ∀ j, j < ops.size → (listed.setIfInBounds k true).getD j false = decide (j < k + 1) := by
   intro j hj
   rw [getD_setB (by omega), hl j hj]
   by_cases e : j = k
   ·subst e; simp
   ·rw [if_neg e]
    congr 1
    simp; omega
  refine ⟨fun h0 => (by rw [h0] at hready; cases hready), fun i hi => ?_⟩
  rw [honly i hi]
  unfold wpOp
  rw [ho]
  simp only
  unfold vmix at hv
  rw [vs_c (by omega) (by omega)] at hv
  have hg := vguard_ok hr hv
  cases hw : Region.wanted o (yielded ops a.tmps) with
  | true =>
   rw [hw] at hg
   simp only at hg
   rw [if_pos rfl]
   left
   refine vread_ok hT hg (fun st1 pv hK => hK.1) L a w _ _ hr fun st' L' a' w' ⟨st1, pv, hK, e⟩ hs' hr' => ?_
   subst e
   exact tailB_ok hT hD hQ r (k + 1) hi' (by omega) _ L' _ a' w' (by simp [hs]) hl' hK.2 hr' (hst.trans hs')
  | false =>
   rw [hw] at hg
   simp only at hg
   rw [if_neg (by simp)]
   obtain ⟨L', s1, s2⟩ := skip_ok hr hg.1
   exact tailB_ok hT hD hQ r (k + 1) hi' (by omega) _ L' _ _ w (by simp [hs]) hl' hg.2 s2 (hst.trans s1)
theorem anyB_ok (hT : TabOk P T) (hD : mixOk ops f n = true) {st F : St} (htr : TrB P ops (unavB ops f n) f ((ops.toList.drop f).take (n - f)) st F) {K : St → Prop} (hv : vmix P T ops f n n (ops.toList.drop n) F K) {Q : Exit → Act → World → Prop} {L0 : Lay} {w0 : World} (hQ : ∀ L st a w, Stp L0 L w0 w → Rel L st a w Free → K st → Q .normal a w) :
  ∀ (fuel : Nat) (listed : Array Bool) (L : Lay) (st' : St) (a : Act) (w : World), InvB P ops f n st F listed st' → cntU ops.size (fun i => !listed.getD i false) = fuel → Rel L st' a w Free → Stp L0 L w0 w → wpAny P .any ops Q fuel listed a w := by
 obtain ⟨hFl, hFo, hfacts⟩ := trB_facts htr
 obtain ⟨_, hfn, hns, _, hsp⟩ := mixOk_spec hD
 have hos : ∀ (k : Nat) (o : Oper), ((ops.toList.drop f).take (n - f))[k]? = some o ↔ k < n - f ∧ ops[f + k]? = some o := by
  intro k o
  rw [List.getElem?_take]
  by_cases h : k < n - f
  ·rw [if_pos h, List.getElem?_drop]; simp [h]
  ·rw [if_neg h]; simp [h]
 have hcnt0 : ∀ (m : Nat) (k : Nat), m ≤ ops.size → ∀ listed : Array Bool, (∀ j, j < ops.size → listed.getD j false = decide (j < k)) → cntU m (fun i => !listed.getD i false) = m - k := by
  intro m
  induction m with
  | zero => intro k _ listed _; simp [cntU]
  | succ m ih =>
   intro k hm listed hl
   simp only [cntU]
   rw [ih k (by omega) listed hl]
   simp only [hl m (by omega)]
   by_cases h : m < k
   ·simp [h]; omega
   ·simp [h]; omega
 have fin : ∀ (fuel : Nat) (listed : Array Bool) (L : Lay) (st' : St) (a : Act) (w : World), InvB P ops f n st F listed st' → cntU ops.size (fun i => !listed.getD i false) = fuel → (∀ j, j < n → listed.getD j false = true) → Rel L st' a w Free → Stp L0 L w0 w → wpAny P .any ops Q fuel listed a w := by
  intro fuel listed L st' a w hI hc hall hrel hs
  have hl : ∀ j, j < ops.size → listed.getD j false = decide (j < n) := by
   intro j hj
   by_cases h : j < n
   ·rw [hall j h]; simp [h]
   ·rw [hI.high j (by omega)]; simp [h]
  have hat : ∀ t, st'.at t = F.at t := by
   intro t
   by_cases hex : ∃ (j : Nat) (o : Oper), f ≤ j ∧ j < n ∧ ops[j]? = some o ∧ o.dst = some t
   ·obtain ⟨j, o, hj, hjn, h1, h2⟩ := hex
    exact hI.new j o t hj h1 (hall j hjn) h2
   ·rw [hI.old t fun j o hj h1 hl h2 => hex ⟨j, o, hj, Classical.byContradiction (fun h => by
     rw [hI.high j (by omega)] at hl
     cases hl), h1, h2⟩, hFo t fun o ho h2 => ?_]
    obtain ⟨j, hj⟩ := List.mem_iff_getElem?.1 ho
    obtain ⟨q1, q2⟩ := (hos j o).1 hj
    exact hex ⟨f + j, o, by omega, by omega, q2, h2⟩
  have e : st' = F := by
   apply List.ext_getElem
   ·rw [hI.len, hFl]
   ·intro t h1 h2
    have := hat t
    unfold St.at at this
    rw [List.getD_eq_getElem?_getD, List.getD_eq_getElem?_getD, List.getElem?_eq_getElem h1, List.getElem?_eq_getElem h2] at this
    exact this
  subst e
  have := tailB_ok hT hD hQ (ops.toList.drop n) n rfl (Nat.le_refl _) listed L st' a w hI.size hl hv hrel hs
  rw [← hc, hcnt0 ops.size n (Nat.le_refl _) listed hl]
  simpa using this
 intro fuel
 induction fuel with
 | zero =>
  intro listed L st' a w hI hc hrel hs
  exact fin 0 listed L st' a w hI hc (fun j hj => by simpa using cntU_zero _ hc j (by omega)) hrel hs
 | succ fuel ih =>
  intro listed L st' a w hI hc hrel hs
  by_cases hall : ∀ j, j < n → listed.getD j false = true
  ·exact fin _ listed L st' a w hI hc hall hrel hs
  ·have hsome : ∃ i, i ∈ Region.ready .any ops listed := by
    refine Classical.byContradiction fun hno => hall fun j => ?_
    induction j using Nat.strongRecOn with
    | _ j ihj =>
     intro hj
     cases hl : listed.getD j false with
     | true => rfl
     | false =>
      have ho : ops[j]? = some ops[j] := Array.getElem?_eq_getElem (by omega)
      refine absurd ⟨j, (ready_iff hI.size).2 ⟨_, ho, hl, fun e he hb => ?_⟩⟩ hno
      have := (hsp j _ ho).1 e he hb
      exact ihj e.on this (by omega)
   refine ⟨fun hr => ?_, fun i hi => ?_⟩
   ·obtain ⟨i, hi⟩ := hsome
    rw [hr] at hi; cases hi
   ·obtain ⟨o, ho, h1, h2⟩ := (ready_iff hI.size).1 hi
    have hi' : i < ops.size := (Array.getElem?_eq_some_iff.1 ho).1
    have hanc := anc_listedB hD hI.closed i o ho h2
    have hfi : f ≤ i := by
     refine Classical.byContradiction fun h => ?_
     rw [hI.low i (by omega)] at h1; cases h1
    have hin : i < n := by
     refine Classical.byContradiction fun h => hall fun j hj => ?_
     by_cases hjf : j < f
     ·exact hI.low j hjf
     ·exact (hanc j ((hsp i o ho).2.2 hfi (by omega) j (by omega) (by omega))).2
    obtain ⟨s, pv, f1, f2, f3, f4, f5⟩ := hfacts (i - f) o ((hos _ _).2 ⟨by omega, by rw [show f + (i - f) = i by omega]; exact ho⟩)
    rw [show f + (i - f) = i by omega] at f1
    have hspi := ((hsp i o ho).2.1 hfi hin).2.2
    have hag : ∀ t, t ∉ unavB ops f n i → st'.at t = s.at t := by
     intro t ht
     by_cases hex : ∃ (j : Nat) (o' : Oper), f ≤ j ∧ j < n ∧ ops[j]? = some o' ∧ o'.dst = some t
     ·obtain ⟨j, o', gj, gn, g1, g2⟩ := hex
      have hj : j < ops.size := (Array.getElem?_eq_some_iff.1 g1).1
      have hja : j ∈ anc ops i := by
       refine Classical.byContradiction fun hn => ht ?_
       refine List.mem_filterMap.2 ⟨j, List.mem_range.2 hj, ?_⟩
       have hn' : (anc ops i).contains j = false := by simpa using hn
       have a1 : ¬ j < f := by omega
       have a2 : ¬ n ≤ j := by omega
       rw [hn', g1]
       simpa [a1, a2] using g2
      obtain ⟨q1, q2⟩ := hanc j hja
      have hspj := ((hsp j o' g1).2.1 gj gn).2.2
      rw [hI.new j o' t gj g1 q2 g2, ← f5 t fun k o2 hk ho2 => by
       obtain ⟨z1, z2⟩ := (hos k o2).1 ho2
       exact hspj (f + k) o2 t z2 (by omega) (by omega) (by omega) g2]
      exact setD_at (hspj i o t ho (by omega) hfi hin g2)
     ·rw [hI.old t fun j o' gj g1 gl g2 => hex ⟨j, o', gj, Classical.byContradiction (fun h => by
       rw [hI.high j (by omega)] at gl
       cases gl), g1, g2⟩, f4 t fun j o' _ g1 g2 => by
       obtain ⟨z1, z2⟩ := (hos j o').1 g1
       exact hex ⟨f + j, o', by omega, by omega, z2, g2⟩]
    have hdst : ∀ d, o.dst = some d → st'.at d = st.at d ∧ s.at d = st.at d := fun d hd => ⟨hI.old d fun j o' gj g1 g2 g3 => by
     by_cases e : j = i
     ·subst e; rw [h1] at g2; cases g2
     ·exact hspi j o' d g1 e gj (Classical.byContradiction fun h => by
       rw [hI.high j (by omega)] at g2
       cases g2) hd g3, f4 d fun j o' hj g1 => by
     obtain ⟨z1, z2⟩ := (hos j o').1 g1
     exact hspi (f + j) o' d z2 (by omega) (by omega) (by omega) hd⟩
    have hnr : nonroot st' o.dst = true := by
     cases hd : o.dst with
     | none => rfl
     | some d =>
      rw [hd] at f2
      obtain ⟨q1, q2⟩ := hdst d hd
      simp only [nonroot] at f2 ⊢
      rw [q1, ← q2]; exact f2
    have hset := getD_setB (listed := listed) (i := i) (by rw [hI.size]; exact hi')
    have hw := f1 st' hag hnr L a w (wpAny P .any ops Q fuel (listed.setIfInBounds i true)) Q hrel fun L' a' w' hs' hr' => ?_
    ·unfold wpOp
     rw [ho]
     exact hw
    ·refine ih (listed.setIfInBounds i true) L' _ a' w' ⟨by rw [Array.size_setIfInBounds, hI.size], fun k o' hk hl e he hb => ?_, fun j hj => ?_, fun j hj => ?_, by rw [setD_len, hI.len], fun t ht => ?_, fun j o' t gj hj hl hd => ?_⟩ ?_ hr' (hs.trans hs')
     ·rw [hset] at hl ⊢
      by_cases e1 : k = i
      ·subst e1
       rw [ho] at hk
       obtain rfl := Option.some.inj hk
       rw [h2 e he hb]; simp
      ·rw [if_neg e1] at hl
       rw [hI.closed k o' hk hl e he hb]; simp
     ·rw [hset, hI.low j hj]; simp
     ·rw [hset, if_neg (by omega)]; exact hI.high j hj
     ·have hne : o.dst ≠ some t := ht i o hfi ho (by rw [hset, if_pos rfl])
      rw [setD_at hne]
      exact hI.old t fun j o' gj g1 g2 => ht j o' gj g1 (by rw [hset, g2]; simp)
     ·by_cases e1 : j = i
      ·subst e1
       rw [ho] at hj
       obtain rfl := Option.some.inj hj
       rw [← f5 t fun k o2 hk ho2 => by
        obtain ⟨z1, z2⟩ := (hos k o2).1 ho2
        exact hspi (f + k) o2 t z2 (by omega) (by omega) (by omega) hd]
       obtain ⟨q1, q2⟩ := hdst t hd
       rw [hd, setD_self (st' := st) hI.len (.inr trivial), setD_self (st' := st) f3 (.inr trivial), hI.len, f3, q1, q2]
      ·rw [hset, if_neg e1] at hl
       rw [setD_at fun hdi => hspi j o' t hj e1 gj (by
        refine Classical.byContradiction fun h => ?_
        rw [hI.high j (by omega)] at hl
        cases hl) hdi hd]
       exact hI.new j o' t gj hj hl hd
     ·have := cntU_flip ops.size (f := fun k => !listed.getD k false) (g := fun k => !(listed.setIfInBounds i true).getD k false) hi' (by simp only [h1]; rfl) (by simp only [hset]; simp) (fun j hj => by simp only [hset, if_neg hj])
      omega
end
end Go.Proofs.YtoeblmcibheldaaGreatDoor.V
end
section
/- The rule of regions in any order with a tail. No condition. -/
namespace Go.Proofs.YtoeblmcibheldaaGreatDoor.V
open Go Go.RowKit
section
variable {P : Program} {T : List (Nat × TI)} {ops : Array Oper} {f n : Nat}
theorem pureOp_ok {L : Lay} {st : St} {a : Act} {w : World} (h : Rel L st a w Free) {o : Oper} {pv : PV} (hp : pureOp st o = some pv) : ∃ v, Yields P ops o v a ∧ ORep L st w pv v ∧ pv.isRoot = false := by
 unfold pureOp at hp
 split at hp
 ·cases hp
 ·rename_i hg
  have hw : Region.wanted o (yielded ops a.tmps) = true := by unfold Region.wanted; rw [hg]
  split at hp
  ·rename_i x ho
   have hv := h.opnd x
   have hr := ref_root st x
   have fin : some (ref st x) = some pv → ∃ v, Yields P ops o v a ∧ ORep L st w pv v ∧ pv.isRoot = false := by
    intro e
    obtain rfl := Option.some.inj e
    exact ⟨a.eval x, .inl ⟨hw, fun w => by simp [execOp, ho]⟩, hv, hr⟩
   split at hp
   ·cases hp
   ·exact fin hp
  ·rename_i t x y t2 ho
   have hx := h.opnd x
   have hy := h.opnd y
   split at hp
   ·rename_i k n k' m e1 e2
    rw [e1] at hx
    rw [e2] at hy
    have vx := hx.int
    have vy := hy.int
    split at hp
    ·rename_i hk
     subst hk
     obtain rfl := Option.some.inj hp
     refine ⟨_, .inl ⟨hw, fun W => ?_⟩, ORep.mkInt _ _, rfl⟩
     have hg : (eqGuard .sub t x y (.int k n) (.int k m)).run P W = .ok () W := by unfold eqGuard; simp
     simp [execOp, ho, vx, vy, hg, binOp, Op.intArith]
    ·cases hp
   ·cases hp
  ·rename_i t x y t2 ho
   have hx := h.opnd x
   have hy := h.opnd y
   split at hp
   ·rename_i k n k' m e1 e2
    rw [e1] at hx
    rw [e2] at hy
    have vx := hx.int
    have vy := hy.int
    split at hp
    ·rename_i hk
     subst hk
     obtain rfl := Option.some.inj hp
     refine ⟨_, .inl ⟨hw, fun W => ?_⟩, ORep.mkInt _ _, rfl⟩
     have hg : (eqGuard .add t x y (.int k n) (.int k m)).run P W = .ok () W := by unfold eqGuard; simp
     simp [execOp, ho, vx, vy, hg, binOp, Op.intArith]
    ·cases hp
   ·cases hp
  ·cases hp
theorem floats_ok (hD : mixOk ops f n = true) {Q : Exit → Act → World → Prop} (hQ : ∀ c a w, ¬ Q (.panic c) a w) {L : Lay} {w : World} {K : St → Prop} {fuel : Nat}
  (hfin : ∀ (listed : Array Bool) (st : St) (a : Act), listed.size = ops.size → (∀ j, j < ops.size → listed.getD j false = decide (j < f)) → (∀ (i : Nat) (o : Oper), ops[i]? = some o → listed.getD i false = true → ∀ e ∈ o.after.toList, Region.binds .any e = true → listed.getD e.on false = true) → vmix P T ops f n f (ops.toList.drop f) st K → Rel L st a w Free → wpAny P .any ops Q fuel listed a w) :
  ∀ (d k : Nat), k + d = f → ∀ (listed : Array Bool) (st : St) (a : Act), listed.size = ops.size → (∀ j, j < ops.size → listed.getD j false = decide (j < k)) → (∀ (i : Nat) (o : Oper), ops[i]? = some o → listed.getD i false = true → ∀ e ∈ o.after.toList, Region.binds .any e = true → listed.getD e.on false = true) → floatOk ops d k listed = true → vmix P T ops f n k (ops.toList.drop k) st K → Rel L st a w Free → wpAny P .any ops Q (fuel + d) listed a w := by
 obtain ⟨hsel, hfn, hns, _, hsp⟩ := mixOk_spec hD
 intro d
 induction d with
 | zero =>
  intro k hk listed st a hs hl hcl _ hv hr
  obtain rfl : k = f := by omega
  exact hfin listed st a hs hl hcl hv hr
 | succ d ih =>
  intro k hk listed st a hs hl hcl hF hv hr
  have hklt : k < ops.size := by omega
  have ho : ops[k]? = some ops[k] := Array.getElem?_eq_getElem hklt
  have hdrop : ops.toList.drop k = ops[k] :: ops.toList.drop (k + 1) := by
   rw [List.drop_eq_getElem_cons (by simpa using hklt)]
   simp
  rw [hdrop] at hv
  unfold vmix at hv
  rw [vs_a (by omega)] at hv
  unfold vfloat at hv
  split at hv
  ·rename_i pv hp
   obtain ⟨hnr, hv⟩ := hv
   simp only [floatOk, Bool.and_eq_true] at hF
   obtain ⟨⟨h1, h2⟩, h3⟩ := hF
   obtain ⟨v, y1, y2, y3⟩ := pureOp_ok (P := P) (ops := ops) hr hp
   have hr' : Rel L (setD st ops[k].dst pv) (a.put ops[k].dst v) w Free := by
    cases hd : ops[k].dst with
    | none => exact hr
    | some d => exact hr.setO (nonroot_spec hnr d hd) y3 y2
   refine wpAny_take ho hsel h2 h1 (fun c a w hq => absurd hq (hQ _ _ _)) y1 (ih (k + 1) (by omega) _ _ _ (by simp [hs]) (fun j hj => ?_) (fun i o hi hl' e he hb => ?_) h3 hv hr')
   ·rw [getD_setB (by omega), hl j hj]
    by_cases e : j = k
    ·subst e; simp
    ·rw [if_neg e]
     congr 1
     simp; omega
   ·rw [getD_setB (by omega)] at hl' ⊢
    by_cases e1 : i = k
    ·subst e1
     obtain ⟨o', q1, _, q2⟩ := (ready_iff hs).1 (show i ∈ Region.ready .any ops listed by simpa using h1)
     rw [hi] at q1
     obtain rfl := Option.some.inj q1
     rw [q2 e he hb]; simp
    ·rw [if_neg e1] at hl'
     rw [hcl i o hi hl' e he hb]; simp
  ·exact hv.elim
theorem VW.mix (hT : TabOk P T) (hm : P.follows .mixedOrders = true) (f n : Nat) (hD : mixOk ops f n = true) {id : Nat} {st : St} {Q : Exit → St → Prop} (h : vmix P T ops f n 0 ops.toList st (Q .normal)) : VW P (.region id ops true) st Q := by
 intro L a w hr
 obtain ⟨hsel, hfn, hns, hfl, hsp⟩ := mixOk_spec hD
 refine wp_mono (Q := fun e a' w' => match e with | .normal => ∃ L' st', Stp L L' w w' ∧ Rel L' st' a' w' Free ∧ Q .normal st' | _ => False) ?_ (fun e a' w' hq => ?_)
 ·refine wp_region_any hm ?_
  have hx : Ext w { w with drawn := w.drawn + 1 } := Ext.drew w
  have hr1 := hr.grow hx
  have h0 : ∀ j, (Array.replicate ops.size false).getD j false = false := fun j => by
   rcases Nat.lt_or_ge j ops.size with hj | hj <;> simp [Array.getD, hj]
  have key := floats_ok (P := P) (T := T) hD (Q := fun e a' w' => match e with | .normal => ∃ L' st', Stp L L' w w' ∧ Rel L' st' a' w' Free ∧ Q .normal st' | _ => False) (fun _ _ _ h => h) (L := L) (w := { w with drawn := w.drawn + 1 }) (K := Q .normal) (fuel := ops.size - f) (fun listed st1 a1 hs hl hcl hv hr2 => ?_) f 0 (by omega) (Array.replicate ops.size false) st a (by simp) (fun j hj => by rw [h0]; simp) (fun i o _ hl => by rw [h0] at hl; cases hl) hfl (by simpa using h) hr1
  ·rw [show ops.size - f + f = ops.size by omega] at key
   exact key
  ·obtain ⟨F, htr, hF⟩ := vmix_tr hT hD (ops.toList.drop f) f rfl (Nat.le_refl _) hfn hv
   refine anyB_ok hT hD htr hF (L0 := L) (w0 := w) (fun L' st' a' w' s r k => ⟨L', st', s, r, k⟩) _ listed L st1 a1 _ ⟨hs, hcl, fun i hi => ?_, fun i hi => ?_, rfl, fun _ _ => rfl, fun j o t hj ho hlj hd => ?_⟩ ?_ hr2 (Stp.ext hx)
   ·rw [hl i (by omega)]; simpa using hi
   ·rcases Nat.lt_or_ge i ops.size with h | h
    ·rw [hl i h]; simp; omega
    ·have : ¬ i < listed.size := by omega
     simp [Array.getD, this]
   ·rw [hl j (Array.getElem?_eq_some_iff.1 ho).1] at hlj
    have : j < f := by simpa using hlj
    omega
   ·have : ∀ m, m ≤ ops.size → cntU m (fun i => !listed.getD i false) = m - f := by
     intro m
     induction m with
     | zero => intro _; simp [cntU]
     | succ m ih =>
      intro hm
      simp only [cntU]
      rw [ih (by omega)]
      simp only [hl m (by omega)]
      by_cases h : m < f
      ·simp [h]; omega
      ·simp [h]; omega
    exact this ops.size (Nat.le_refl _)
 ·cases e with
  | normal => exact hq
  | _ => exact hq.elim
theorem VW.mixl (hT : TabOk P T) (hm : P.follows .mixedOrders = true) (f n : Nat) {id : Nat} {st : St} {Q : Exit → St → Prop} (hD : mixOk ops f n = true) (h : ∀ K : St → Prop, (∀ s, Q .normal s → K s) → vmix P T ops f n 0 ops.toList st K) : VW P (.region id ops true) st Q :=
 VW.mix hT hm f n hD (h _ fun _ h => h)
end
end Go.Proofs.YtoeblmcibheldaaGreatDoor.V
end
section
/- A region that clears the end of one's own row. No condition. -/
namespace Go.Proofs.YtoeblmcibheldaaGreatDoor.V
open Go Go.RowKit
section
variable {P : Program} {T : List (Nat × TI)} {ops : Array Oper}
theorem wpOps_step {Q : Exit → Act → World → Prop} {i : Nat} {r : List Nat} {o : Oper} {a : Act} {w : World} (ho : ops[i]? = some o) (hq : o.guard = none) (h : o.wp P a w (wpOps P ops Q r) Q) : wpOps P ops Q (i :: r) a w := by
 have hw : Region.wanted o (yielded ops a.tmps) = true := by unfold Region.wanted; rw [hq]
 simp only [wpOps, ho, hw, if_true]
 exact .inl h
/-- a row's content turns while its block stays one's own -/
theorem Rel.turn {L : Lay} {st : St} {a : Act} {w w' : World} (h : Rel L st a w Free) {g : Nat} {agg : Bool} {s : Sh} {f f' : Fl} {x x' : s.ty} (hg : st.at g = .root (.val agg) s f x) {st1 st2 : St} (h1 : V.put st g [] s .junk x hitS = some st1) (h2 : V.put st1 g [] s f' x' hitS = some st2)
  (hw : ∀ B : Nat → Prop, Rep w L.Z s f x (L.C g) B → (∀ b, B b → L.F g b) → ExtF w w' B ∧ Rep w' L.Z s f' x' (L.C g) B) : ∃ L', Stp L L' w w' ∧ Rel L' st2 a w' Free := by
 obtain ⟨r1, B0, r2, r3, r4⟩ := h.root hg
 have hP : Place L st w g [] s (L.C g) (L.D g) := ⟨_, s, f, x, hg, by cases s <;> trivial, ⟨f, x, get_nil _ _ _⟩, sub_nil _ _ _ _⟩
 obtain ⟨f1, x1, e1, B1, e2, e3, e4, e5, e6⟩ := h.put hg hP
 rw [get_nil] at e1
 cases Option.some.inj e1
 obtain ⟨hx, hR⟩ := hw B1 e3 e2
 obtain ⟨f3, x3, hu, hst1⟩ := put_spec hg h1
 have q1 := e6 w (L.C g) .junk x (fun _ => False) B1 f3 x3 hitS (.inl ⟨rfl, rfl⟩) rfl e3.tojunk (fun _ h => h.elim) (fun b hb => ⟨.inr hb, id⟩) hu (.inr ⟨rfl, rfl⟩)
 rw [← hst1] at q1
 generalize hL1 : (⟨L.Z, fun t b => if t = g then (L.F g b ∧ ¬ B1 b) ∨ False else L.F t b, fun t => if t = g then csub s (L.C g) [] (L.C g) else L.C t, L.D⟩ : Lay) = L1 at q1
 have hL1F : ∀ t n, L1.F t n → L.F t n := by
  intro t n hn
  rw [← hL1] at hn
  simp only at hn
  split at hn
  ·rename_i e; subst e; exact hn.elim (fun q => q.1) False.elim
  ·exact hn
 have hL1Z : L1.Z = L.Z := by rw [← hL1]
 have hL1C : L1.C g = L.C g := by rw [← hL1]; simp only [if_true, csub_nil]
 have hg1 : st1.at g = .root (.val agg) s f3 x3 := by
  rw [hst1, St.at_set, if_pos ⟨rfl, by rw [List.length_map]; exact root_lt hg⟩]
 have hnF : ∀ n, B1 n → ¬ L1.Z n ∧ ∀ t, ¬ L1.F t n := fun n hn => ⟨(q1.rlt n hn).2, fun t ht => q1.rdj t n ht hn⟩
 have q2 : Rel L1 st1 a w' B1 := q1.extF hx hnF
 have hP2 : Place L1 st1 w' g [] s (L.C g) (L1.D g) := ⟨_, s, f3, x3, hg1, by cases s <;> trivial, ⟨f3, x3, get_nil _ _ _⟩, by rw [sub_nil, hL1C]⟩
 obtain ⟨f5, x5, d1, B5, d2, d3, d4, d5, d6⟩ := q2.put hg1 hP2
 obtain ⟨f6, x6, hu2, hst2⟩ := put_spec hg1 h2
 have q3 := d6 w' (L.C g) f' x' B1 Free f6 x6 hitS (.inl ⟨rfl, rfl⟩) rfl (by rw [hL1Z]; exact hR) (fun n hn => .inl hn) (fun n hn => hn.elim) hu2 (.inr ⟨rfl, rfl⟩)
 rw [← hst2] at q3
 refine ⟨_, ?_, q3⟩
 refine ⟨hx.os, hx.tape, hx.output, hx.size, fun n hn hL => hx.block n hn (fun hB => hL g (e2 n hB)), .of hL1Z, fun t n hn => ?_⟩
 simp only at hn
 split at hn
 ·rcases hn with hn | hn
  ·exact .inl ⟨g, hL1F g n hn.1⟩
  ·exact .inl ⟨g, e2 n hn⟩
 ·exact .inl ⟨t, hL1F t n hn⟩
theorem getD_put {a : Act} {d t : Nat} {v : Value} (h : d < a.tmps.size) : (a.put (some d) v).tmps.getD t undef = if t = d then v else a.tmps.getD t undef := by
 show (a.tmps.setIfInBounds d v).getD t undef = _
 rw [getD_set_eq]
 by_cases e : t = d
 ·rw [if_pos ⟨e, h⟩, if_pos e]
 ·rw [if_neg (fun q => e q.1), if_neg e]
end
end Go.Proofs.YtoeblmcibheldaaGreatDoor.V
end
section
/- An empty row handed over. No condition. -/
namespace Go.Proofs.YtoeblmcibheldaaGreatDoor.V
open Go Go.RowKit
end Go.Proofs.YtoeblmcibheldaaGreatDoor.V
end
section
/- Functions that hand out a pointer; headers of frozen slices learned. No condition. -/
namespace Go.Proofs.YtoeblmcibheldaaGreatDoor.V
open Go Go.RowKit
/-- nothing is handed over: a law of reading -/
theorem VC.of_vx {P : Program} {f : FuncId} {args : List PV} {R : PV → PV → Prop} (h : VX P f args 0 R) (h0 : ∀ pv, args[0]? = some pv → pv.isRoot = false) : VC P f args (fun pv => ∃ ot, R pv ot) := by
 refine ⟨h.fn, fun Z w vals h1 h2 h3 => (h.run Z (fun _ => False) w vals h1 (fun b hb => hb.elim) h2 (fun j pv v _ hp hv => h3 j pv v hp hv) (fun pv v hp hv => ?_)).mono fun e w' ⟨v, pv, o, Fr, Fo, Z2, c1, c2, c3, c4, c5, c6, c7, c8, c9⟩ => ⟨v, pv, c1, ⟨c2.os, c2.tape, c2.output, c2.size, fun b hb => c2.block b hb id⟩, ⟨o, c3⟩, ?_⟩⟩
 ·have hA := h3 0 pv v hp hv
  have := h0 pv hp
  cases pv with
  | root => cases this
  | _ => exact hA
 ·refine ⟨Z2, c8, ?_⟩
  rcases PV.root_or pv with ⟨k, s, fl, x, rfl⟩ | hpv
  ·obtain ⟨cs, ad, B, g1, g2, g3, g4⟩ := c4
   have hn : ∀ b, Fr b → NewIn w w' Z2 b := fun b hb => ⟨⟨(c6 b (.inl hb)).1.resolve_left id, (c6 b (.inl hb)).2⟩, c9 b (.inl hb)⟩
   exact ⟨cs, ad, B, g1, fun b hb => hn b (g2 b hb), fun A hA => ⟨(g3 A hA).1, hn _ (g3 A hA).2⟩, g4⟩
  ·cases pv with
   | root => cases hpv
   | _ => exact c4
theorem VW.retag {P : Program} {c : Code} {st : St} {Q : Exit → St → Prop} {g : Nat} {k : RK} {s : Sh} {f : Fl} {x : s.ty} {ι : Type} (fj : ι → Fl) (stj : ι → St) (hg : st.at g = .root k s f x) (hf : ∀ (w : World) (Z : Nat → Prop) (cs : List Value) (B : Nat → Prop), Rep w Z s f x cs B → ∃ j, Rep w Z s (fj j) x cs B) (hp : ∀ j, put st g [] s (fj j) x hit = some (stj j)) (h : ∀ j, VW P c (stj j) Q) : VW P c st Q := by
 intro L a w hr
 have hP : Place L st w g [] s (L.C g) (L.D g) := ⟨k, s, f, x, hg, by cases s <;> trivial, ⟨f, x, get_nil _ _ _⟩, sub_nil _ _ _ _⟩
 obtain ⟨f1, x1, e1, B1, e2, e3, e4, e5, e6⟩ := hr.put hg hP
 rw [get_nil] at e1
 cases Option.some.inj e1
 obtain ⟨j, hj⟩ := hf w L.Z _ _ e3
 obtain ⟨f3, x3, hu, hst⟩ := put_spec hg (hp j)
 have r1 := e6 w (L.C g) (fj j) x B1 Free f3 x3 hit (.inl ⟨rfl, rfl⟩) rfl hj (fun b hb => .inr hb) (fun b hb => hb.elim) hu (.inl rfl)
 rw [← hst] at r1
 refine wp_mono (h j _ a w r1) fun e a' w' ⟨L', st', s', r', q⟩ => ⟨L', st', ?_, r', q⟩
 refine Stp.trans (B := ⟨L.Z, fun t b => if t = g then (L.F g b ∧ ¬ B1 b) ∨ B1 b else L.F t b, fun t => if t = g then csub s (L.C g) [] (L.C g) else L.C t, L.D⟩) ⟨rfl, rfl, rfl, Nat.le_refl _, fun _ _ _ => rfl, .of rfl, fun t b hb => ?_⟩ s'
 simp only at hb
 split at hb
 ·exact .inl ⟨g, hb.elim (fun q => q.1) (e2 b)⟩
 ·exact .inl ⟨t, hb⟩
theorem kz_l {w : World} {Z : Nat → Prop} {e : TypeId} {s b : Sh} {f : Fl} {x : (Sh.pr (.sl e s) b).ty} {cs : List Value} {B : Nat → Prop} (hf : f.l = .fz) (h : Rep w Z (.pr (.sl e s) b) f x cs B) : ∃ j : Option Addr × Nat, Rep w Z (.pr (.sl e s) b) (.pr (.kz j.1 j.2) f.r) x cs B := by
 obtain ⟨c1, c2, B1, B2, h0, h1, h2, h3, h4, h5⟩ := h
 rw [hf] at h4
 obtain ⟨A, c, q1, q2⟩ := id h4
 exact ⟨(A, c), c1, c2, B1, B2, h0, h1, h2, h3, ⟨h4, q1⟩, h5⟩
end Go.Proofs.YtoeblmcibheldaaGreatDoor.V
end
section
/- The rewriting words in one. No condition. -/
namespace Go.Proofs.YtoeblmcibheldaaGreatDoor.V
open Go Go.RowKit
/-- a goal put off: see cutl -/
structure Hold (Z : Prop) : Prop where
 h : Z
/-- many branches that end alike: the end is proved once -/
theorem cutl {G Z : Prop} (k : Hold Z → G) (h : Z) : G := k ⟨h⟩
theorem bq : (∀ (α : Type) (a : α) (l : List α), (a :: l).length = l.length + 1) ∧ (∀ α : Type, ([] : List α).length = 0) ∧ (∀ n : Nat, 0 + n = n) ∧ (∀ n : Nat, (n < n + 1) = True) ∧ (∀ p : Prop, (p ∧ p) = p) ∧
  (∀ (a : PV) (l : List PV), St.at (a :: l) 0 = a) ∧ (∀ (a : PV) (l : List PV) (n : Nat), St.at (a :: l) (n + 1) = St.at l n) ∧ ((!false) = true) ∧ ((!true) = false) ∧ (∀ p : Prop, (True ∧ p) = p) ∧ (∀ p : Prop, (p ∧ True) = p) ∧ ((false = true) = False) ∧
  (∀ p : Prop, (True → p) = p) ∧ (∀ p : Prop, (False → p) = True) ∧ (∀ α : Sort 1, (α → True) = True) ∧ (∀ p : Prop, (p → True) = True) ∧ (∀ b : Bool, ((!b) = true) = (b = false)) ∧
  (∀ (α : Type) (h : Decidable True) (a b : α), (if True then a else b) = a) ∧ (∀ (α : Type) (h : Decidable False) (a b : α), (if False then a else b) = b) ∧ (∀ (s : Sh) (x : s.ty), castTo s s x = some x) ∧
  (∀ (α : Type) (l : List α), [] ++ l = l) ∧ (∀ (α : Type) (a : α) (l m : List α), a :: l ++ m = a :: (l ++ m)) ∧ (∀ b, (true && b) = b) ∧ (∀ b, (b && true) = b) ∧ (∀ b, (b || false) = b) ∧ (∀ b, (false || b) = b) ∧ (∀ b, (true || b) = true) ∧ (∀ b, (b || true) = true) ∧
  (∀ (α : Type) (a : α), (a = a) = True) ∧ (∀ h : Decidable True, @decide True h = true) ∧ (∀ p : Prop, (True ∨ p) = True) ∧ (∀ p : Prop, (p ∨ True) = True) ∧ (∀ (α : Type) (a b : α) (l : List α) (n : Nat), (a :: l)[n + 1]? = l[n]?) ∧ (∀ (α : Type) (a : α) (l : List α), (a :: l)[0]? = some a) ∧
  (∀ (α β : Type) (a : α) (f : α → Option β), (some a).bind f = f a) ∧ (∀ (α : Type) (p : α → Bool), [].all p = true) ∧ (∀ (α : Type) (p : α → Bool) (a : α) (l : List α), (a :: l).all p = (p a && l.all p)) ∧ (∀ (α : Type) [BEq α] [ReflBEq α] (a : α), (a == a) = true) ∧
  (∀ (α : Type) (a b : Array α), (a ++ b).toList = a.toList ++ b.toList) ∧ (∀ (α : Type) (a b : α), (a ≠ b) = ¬ (a = b)) ∧ ((¬ False) = True) ∧ ((¬ True) = False) ∧ (∀ (α : Type) [BEq α] (a : α), [].contains a = false) ∧ (∀ n : Nat, Int.toNat (n : Int) = n) ∧
  ((PStep.l == PStep.l) = true) ∧ ((PStep.l == PStep.r) = false) ∧ ((PStep.r == PStep.l) = false) ∧ ((PStep.r == PStep.r) = true) ∧ (∀ i j : Nat, (PStep.el i == PStep.el j) = decide (i = j)) ∧ (∀ b, (b && false) = false) ∧ (∀ b, (false && b) = false) ∧ (∀ b, (!(!b)) = b) := by
 refine ⟨fun _ _ _ => rfl, fun _ => rfl, Nat.zero_add, fun n => by simp, fun p => by simp, fun _ _ => rfl, fun _ _ _ => rfl, rfl, rfl, fun p => by simp, fun p => by simp, by simp, fun p => by simp, fun p => by simp, fun p => by simp, fun p => by simp, fun b => by simp, fun _ _ _ _ => by simp, fun _ _ _ _ => by simp, castTo_self, fun _ _ => rfl, fun _ _ _ _ => rfl, fun b => by simp, fun b => by simp, fun b => by simp, fun b => by simp, fun b => by simp, fun b => by simp, fun _ _ => by simp, fun _ => by simp, fun p => by simp, fun p => by simp, fun _ _ _ _ _ => by simp, fun _ _ _ => rfl, fun _ _ _ _ => rfl, fun _ _ => rfl, fun _ _ _ _ => rfl, fun _ _ _ _ => by simp, fun _ _ _ => by simp, fun _ _ _ => rfl, by simp, by simp, fun _ _ _ => rfl, fun n => by simp, ps1, ps2, ps3, ps4, ps5, fun b => by simp, fun b => by simp, fun b => by simp⟩
end Go.Proofs.YtoeblmcibheldaaGreatDoor.V
end
section
/- The rewriting words in one, the definitions' equations. No condition. -/
namespace Go.Proofs.YtoeblmcibheldaaGreatDoor.V
open Go Go.RowKit
theorem vq : type_of% (And.intro (And.intro (And.intro (And.intro (And.intro (And.intro (And.intro (@Sh.size.eq_1) (And.intro (@Sh.size.eq_2) (@Sh.size.eq_3))) (And.intro (And.intro (@Sh.size.eq_4) (@Sh.size.eq_5)) (And.intro (@Sh.size.eq_6) (@fillRow.eq_1)))) (And.intro (And.intro (And.intro (@fillRow.eq_2) (@fillSt.eq_1)) (And.intro (@fillSt.eq_2) (@noH.eq_1))) (And.intro (And.intro (@PV.isH.eq_1) (@PV.isH.eq_2)) (And.intro (@Fl.sub.eq_1) (@Fl.sub.eq_2))))) (And.intro (And.intro (And.intro (@Fl.sub.eq_3) (And.intro (@PV.isEmp.eq_1) (@PV.isEmp.eq_2))) (And.intro (And.intro (@emp1) (@headRow.eq_1)) (And.intro (@headRow.eq_2) (@headRow.eq_3)))) (And.intro (And.intro (And.intro (@rowOf.eq_1) (@rowOf.eq_2)) (And.intro (@rowOf.eq_3) (@rowOf.eq_4))) (And.intro (And.intro (@nilTest.eq_1) (@take.eq_1)) (And.intro (@drop.eq_1) (@usesG.eq_1)))))) (And.intro (And.intro (And.intro (And.intro (@usesG.eq_2) (And.intro (@usesG.eq_3) (@usesG.eq_4))) (And.intro (And.intro (@capUses.eq_1) (@capUses.eq_2)) (And.intro (@emp0) (@hdv)))) (And.intro (And.intro (And.intro (@vops.eq_1) (@vops.eq_2)) (And.intro (@vguard.eq_1) (@vread.eq_1))) (And.intro (And.intro (@vdraw.eq_1) (@vdraw.eq_2)) (And.intro (@vreadD.eq_1) (@pop.eq_1))))) (And.intro (And.intro (And.intro (And.intro (@ref.eq_1) (@ref.eq_2)) (And.intro (@ev.eq_1) (@ev.eq_2))) (And.intro (And.intro (@ev.eq_3) (@ev.eq_4)) (And.intro (@cvalue.eq_1) (@cvalue.eq_2)))) (And.intro (And.intro (And.intro (@cvalue.eq_3) (@cvalue.eq_4)) (And.intro (@cvalue.eq_5) (@nonroot.eq_1))) (And.intro (And.intro (@nonroot.eq_2) (@PV.isRoot.eq_1)) (And.intro (@PV.isRoot.eq_2) (@setD.eq_1))))))) (And.intro (And.intro (And.intro (And.intro (And.intro (@setD.eq_2) (And.intro (@lenOf.eq_1) (@lenOf.eq_2))) (And.intro (And.intro (@lenOf.eq_3) (@lenOf.eq_4)) (And.intro (@binop.eq_1) (@binop.eq_2)))) (And.intro (And.intro (And.intro (@binop.eq_3) (@binop.eq_4)) (And.intro (@binop.eq_5) (@binop.eq_6))) (And.intro (And.intro (@binop.eq_7) (@binop.eq_8)) (And.intro (@intop.eq_1) (@intop.eq_2))))) (And.intro (And.intro (And.intro (@intop.eq_3) (And.intro (@intop.eq_4) (@intop.eq_5))) (And.intro (And.intro (@intop.eq_6) (@intop.eq_7)) (And.intro (@intop.eq_8) (@intop.eq_9)))) (And.intro (And.intro (And.intro (@intop.eq_10) (@intop.eq_11)) (And.intro (@intop.eq_12) (@intop.eq_13))) (And.intro (And.intro (@intop.eq_14) (@intop.eq_15)) (And.intro (@intop.eq_16) (@capsOf.eq_1)))))) (And.intro (And.intro (And.intro (And.intro (@capsOf.eq_2) (And.intro (@cOf.eq_1) (@look.eq_1))) (And.intro (And.intro (@get.eq_1) (@get.eq_2)) (And.intro (@get.eq_3) (@get.eq_4)))) (And.intro (And.intro (And.intro (@get.eq_5) (@get.eq_6)) (And.intro (@get.eq_7) (@get.eq_8))) (And.intro (And.intro (@lendCaps.eq_1) (@lendCaps.eq_2)) (And.intro (@lendAll.eq_1) (@lendAll.eq_2))))) (And.intro (And.intro (And.intro (And.intro (@lend.eq_1) (@lend.eq_2)) (And.intro (@lend.eq_3) (@lend.eq_4))) (And.intro (And.intro (@lend.eq_5) (@lend.eq_6)) (And.intro (@lend.eq_7) (@lendCap.eq_1)))) (And.intro (And.intro (And.intro (@lendCap.eq_2) (@okRes.eq_1)) (And.intro (@okRes.eq_2) (@okRes.eq_3))) (And.intro (And.intro (@okRes.eq_4) (@isAdr.eq_1)) (And.intro (@isAdr.eq_2) (@capPV.eq_1)))))))) (And.intro (And.intro (And.intro (And.intro (And.intro (And.intro (@capPV.eq_2) (And.intro (@mentOk.eq_1) (@ments.eq_1))) (And.intro (And.intro (@ments.eq_2) (@ments.eq_3)) (And.intro (@ments.eq_4) (@loaded.eq_1)))) (And.intro (And.intro (And.intro (@Sh.plain.eq_1) (@Sh.plain.eq_2)) (And.intro (@Sh.plain.eq_3) (@Fl.allfz.eq_1))) (And.intro (And.intro (@Fl.allfz.eq_2) (@Fl.allfz.eq_3)) (And.intro (@Fl.allfz.eq_4) (@Fl.allfz.eq_5))))) (And.intro (And.intro (And.intro (@grab.eq_1) (And.intro (@grab.eq_2) (@grab.eq_3))) (And.intro (And.intro (@grab.eq_4) (@upd.eq_1)) (And.intro (@upd.eq_2) (@upd.eq_3)))) (And.intro (And.intro (And.intro (@upd.eq_4) (@upd.eq_5)) (And.intro (@upd.eq_6) (@upd.eq_7))) (And.intro (And.intro (@upd.eq_8) (@hit.eq_1)) (And.intro (@hit.eq_2) (@hit.eq_3)))))) (And.intro (And.intro (And.intro (And.intro (@hit.eq_4) (And.intro (@put.eq_1) (@unop.eq_1))) (And.intro (And.intro (@unop.eq_2) (@unop.eq_3)) (And.intro (@eqop.eq_1) (@eqop.eq_2)))) (And.intro (And.intro (And.intro (@Fl.good.eq_1) (@Fl.good.eq_2)) (And.intro (@Fl.good.eq_3) (@Fl.good.eq_4))) (And.intro (And.intro (@Fl.good.eq_5) (@Fl.good.eq_6)) (And.intro (@Fl.sound.eq_1) (@Fl.sound.eq_2))))) (And.intro (And.intro (And.intro (And.intro (@Fl.sound.eq_3) (@Fl.sound.eq_4)) (And.intro (@Fl.sound.eq_5) (@Fl.sound.eq_6))) (And.intro (And.intro (@Fl.sound.eq_7) (@Fl.sound.eq_8)) (And.intro (@Fl.l.eq_1) (@Fl.l.eq_2)))) (And.intro (And.intro (And.intro (@Fl.r.eq_1) (@Fl.r.eq_2)) (And.intro (@Fl.el.eq_1) (@Fl.el.eq_2))) (And.intro (And.intro (@Fl.el.eq_3) (@Fl.el.eq_4)) (And.intro (@fpath.eq_1) (@fpath.eq_2))))))) (And.intro (And.intro (And.intro (And.intro (And.intro (@Sh.zero.eq_1) (And.intro (@Sh.zero.eq_2) (@Sh.zero.eq_3))) (And.intro (And.intro (@Sh.zero.eq_4) (@Sh.zero.eq_5)) (And.intro (@Sh.zero.eq_6) (@bound.eq_1)))) (And.intro (And.intro (And.intro (@bound.eq_2) (@Path.pre.eq_1)) (And.intro (@Path.pre.eq_2) (@Path.pre.eq_3))) (And.intro (And.intro (@below.eq_1) (@skipPV.eq_1)) (And.intro (@vb_tt) (@vb_tf))))) (And.intro (And.intro (And.intro (And.intro (@vb_ft) (@vb_ff)) (And.intro (@Fl.wr.eq_1) (@Fl.wr.eq_2))) (And.intro (And.intro (@Fl.wr.eq_3) (@Fl.wr.eq_4)) (And.intro (@hitS.eq_1) (@hitS.eq_2)))) (And.intro (And.intro (And.intro (@hitS.eq_3) (@hitS.eq_4)) (And.intro (@xback.eq_1) (@xback.eq_2))) (And.intro (And.intro (@lendX.eq_1) (@lendX.eq_2)) (And.intro (@lendX.eq_3) (@vmix.eq_1)))))) (And.intro (And.intro (And.intro (And.intro (@vmix.eq_2) (And.intro (@pureOp.eq_1) (@Fl.nofz.eq_1))) (And.intro (And.intro (@Fl.nofz.eq_2) (@Fl.nofz.eq_3)) (And.intro (@Fl.nofz.eq_4) (@Fl.nofz.eq_5)))) (And.intro (And.intro (And.intro (@Fl.nofz.eq_6) (@Fl.nofz.eq_7)) (And.intro (@vio.eq_1) (@vxgo.eq_1))) (And.intro (And.intro (@vmv.eq_1) (@capOut.eq_1)) (And.intro (@capOut.eq_2) (@vs_a))))) (And.intro (And.intro (And.intro (And.intro (@vs_b) (@vs_c)) (And.intro (@vfloat.eq_1) (@vfloat.eq_2))) (And.intro (And.intro (@capBelow.eq_1) (@capBelow.eq_2)) (And.intro (@Fl.unio.eq_1) (@Fl.unio.eq_2)))) (And.intro (And.intro (And.intro (@keepZ.eq_1) (@keepZ.eq_2)) (And.intro (@keepZ.eq_3) (@keepZ.eq_4))) (And.intro (And.intro (@nilP.eq_1) (@nilP.eq_2)) (And.intro (@moveTup.eq_1) (@moveTup.eq_2))))))))) :=
 And.intro (And.intro (And.intro (And.intro (And.intro (And.intro (And.intro (@Sh.size.eq_1) (And.intro (@Sh.size.eq_2) (@Sh.size.eq_3))) (And.intro (And.intro (@Sh.size.eq_4) (@Sh.size.eq_5)) (And.intro (@Sh.size.eq_6) (@fillRow.eq_1)))) (And.intro (And.intro (And.intro (@fillRow.eq_2) (@fillSt.eq_1)) (And.intro (@fillSt.eq_2) (@noH.eq_1))) (And.intro (And.intro (@PV.isH.eq_1) (@PV.isH.eq_2)) (And.intro (@Fl.sub.eq_1) (@Fl.sub.eq_2))))) (And.intro (And.intro (And.intro (@Fl.sub.eq_3) (And.intro (@PV.isEmp.eq_1) (@PV.isEmp.eq_2))) (And.intro (And.intro (@emp1) (@headRow.eq_1)) (And.intro (@headRow.eq_2) (@headRow.eq_3)))) (And.intro (And.intro (And.intro (@rowOf.eq_1) (@rowOf.eq_2)) (And.intro (@rowOf.eq_3) (@rowOf.eq_4))) (And.intro (And.intro (@nilTest.eq_1) (@take.eq_1)) (And.intro (@drop.eq_1) (@usesG.eq_1)))))) (And.intro (And.intro (And.intro (And.intro (@usesG.eq_2) (And.intro (@usesG.eq_3) (@usesG.eq_4))) (And.intro (And.intro (@capUses.eq_1) (@capUses.eq_2)) (And.intro (@emp0) (@hdv)))) (And.intro (And.intro (And.intro (@vops.eq_1) (@vops.eq_2)) (And.intro (@vguard.eq_1) (@vread.eq_1))) (And.intro (And.intro (@vdraw.eq_1) (@vdraw.eq_2)) (And.intro (@vreadD.eq_1) (@pop.eq_1))))) (And.intro (And.intro (And.intro (And.intro (@ref.eq_1) (@ref.eq_2)) (And.intro (@ev.eq_1) (@ev.eq_2))) (And.intro (And.intro (@ev.eq_3) (@ev.eq_4)) (And.intro (@cvalue.eq_1) (@cvalue.eq_2)))) (And.intro (And.intro (And.intro (@cvalue.eq_3) (@cvalue.eq_4)) (And.intro (@cvalue.eq_5) (@nonroot.eq_1))) (And.intro (And.intro (@nonroot.eq_2) (@PV.isRoot.eq_1)) (And.intro (@PV.isRoot.eq_2) (@setD.eq_1))))))) (And.intro (And.intro (And.intro (And.intro (And.intro (@setD.eq_2) (And.intro (@lenOf.eq_1) (@lenOf.eq_2))) (And.intro (And.intro (@lenOf.eq_3) (@lenOf.eq_4)) (And.intro (@binop.eq_1) (@binop.eq_2)))) (And.intro (And.intro (And.intro (@binop.eq_3) (@binop.eq_4)) (And.intro (@binop.eq_5) (@binop.eq_6))) (And.intro (And.intro (@binop.eq_7) (@binop.eq_8)) (And.intro (@intop.eq_1) (@intop.eq_2))))) (And.intro (And.intro (And.intro (@intop.eq_3) (And.intro (@intop.eq_4) (@intop.eq_5))) (And.intro (And.intro (@intop.eq_6) (@intop.eq_7)) (And.intro (@intop.eq_8) (@intop.eq_9)))) (And.intro (And.intro (And.intro (@intop.eq_10) (@intop.eq_11)) (And.intro (@intop.eq_12) (@intop.eq_13))) (And.intro (And.intro (@intop.eq_14) (@intop.eq_15)) (And.intro (@intop.eq_16) (@capsOf.eq_1)))))) (And.intro (And.intro (And.intro (And.intro (@capsOf.eq_2) (And.intro (@cOf.eq_1) (@look.eq_1))) (And.intro (And.intro (@get.eq_1) (@get.eq_2)) (And.intro (@get.eq_3) (@get.eq_4)))) (And.intro (And.intro (And.intro (@get.eq_5) (@get.eq_6)) (And.intro (@get.eq_7) (@get.eq_8))) (And.intro (And.intro (@lendCaps.eq_1) (@lendCaps.eq_2)) (And.intro (@lendAll.eq_1) (@lendAll.eq_2))))) (And.intro (And.intro (And.intro (And.intro (@lend.eq_1) (@lend.eq_2)) (And.intro (@lend.eq_3) (@lend.eq_4))) (And.intro (And.intro (@lend.eq_5) (@lend.eq_6)) (And.intro (@lend.eq_7) (@lendCap.eq_1)))) (And.intro (And.intro (And.intro (@lendCap.eq_2) (@okRes.eq_1)) (And.intro (@okRes.eq_2) (@okRes.eq_3))) (And.intro (And.intro (@okRes.eq_4) (@isAdr.eq_1)) (And.intro (@isAdr.eq_2) (@capPV.eq_1)))))))) (And.intro (And.intro (And.intro (And.intro (And.intro (And.intro (@capPV.eq_2) (And.intro (@mentOk.eq_1) (@ments.eq_1))) (And.intro (And.intro (@ments.eq_2) (@ments.eq_3)) (And.intro (@ments.eq_4) (@loaded.eq_1)))) (And.intro (And.intro (And.intro (@Sh.plain.eq_1) (@Sh.plain.eq_2)) (And.intro (@Sh.plain.eq_3) (@Fl.allfz.eq_1))) (And.intro (And.intro (@Fl.allfz.eq_2) (@Fl.allfz.eq_3)) (And.intro (@Fl.allfz.eq_4) (@Fl.allfz.eq_5))))) (And.intro (And.intro (And.intro (@grab.eq_1) (And.intro (@grab.eq_2) (@grab.eq_3))) (And.intro (And.intro (@grab.eq_4) (@upd.eq_1)) (And.intro (@upd.eq_2) (@upd.eq_3)))) (And.intro (And.intro (And.intro (@upd.eq_4) (@upd.eq_5)) (And.intro (@upd.eq_6) (@upd.eq_7))) (And.intro (And.intro (@upd.eq_8) (@hit.eq_1)) (And.intro (@hit.eq_2) (@hit.eq_3)))))) (And.intro (And.intro (And.intro (And.intro (@hit.eq_4) (And.intro (@put.eq_1) (@unop.eq_1))) (And.intro (And.intro (@unop.eq_2) (@unop.eq_3)) (And.intro (@eqop.eq_1) (@eqop.eq_2)))) (And.intro (And.intro (And.intro (@Fl.good.eq_1) (@Fl.good.eq_2)) (And.intro (@Fl.good.eq_3) (@Fl.good.eq_4))) (And.intro (And.intro (@Fl.good.eq_5) (@Fl.good.eq_6)) (And.intro (@Fl.sound.eq_1) (@Fl.sound.eq_2))))) (And.intro (And.intro (And.intro (And.intro (@Fl.sound.eq_3) (@Fl.sound.eq_4)) (And.intro (@Fl.sound.eq_5) (@Fl.sound.eq_6))) (And.intro (And.intro (@Fl.sound.eq_7) (@Fl.sound.eq_8)) (And.intro (@Fl.l.eq_1) (@Fl.l.eq_2)))) (And.intro (And.intro (And.intro (@Fl.r.eq_1) (@Fl.r.eq_2)) (And.intro (@Fl.el.eq_1) (@Fl.el.eq_2))) (And.intro (And.intro (@Fl.el.eq_3) (@Fl.el.eq_4)) (And.intro (@fpath.eq_1) (@fpath.eq_2))))))) (And.intro (And.intro (And.intro (And.intro (And.intro (@Sh.zero.eq_1) (And.intro (@Sh.zero.eq_2) (@Sh.zero.eq_3))) (And.intro (And.intro (@Sh.zero.eq_4) (@Sh.zero.eq_5)) (And.intro (@Sh.zero.eq_6) (@bound.eq_1)))) (And.intro (And.intro (And.intro (@bound.eq_2) (@Path.pre.eq_1)) (And.intro (@Path.pre.eq_2) (@Path.pre.eq_3))) (And.intro (And.intro (@below.eq_1) (@skipPV.eq_1)) (And.intro (@vb_tt) (@vb_tf))))) (And.intro (And.intro (And.intro (And.intro (@vb_ft) (@vb_ff)) (And.intro (@Fl.wr.eq_1) (@Fl.wr.eq_2))) (And.intro (And.intro (@Fl.wr.eq_3) (@Fl.wr.eq_4)) (And.intro (@hitS.eq_1) (@hitS.eq_2)))) (And.intro (And.intro (And.intro (@hitS.eq_3) (@hitS.eq_4)) (And.intro (@xback.eq_1) (@xback.eq_2))) (And.intro (And.intro (@lendX.eq_1) (@lendX.eq_2)) (And.intro (@lendX.eq_3) (@vmix.eq_1)))))) (And.intro (And.intro (And.intro (And.intro (@vmix.eq_2) (And.intro (@pureOp.eq_1) (@Fl.nofz.eq_1))) (And.intro (And.intro (@Fl.nofz.eq_2) (@Fl.nofz.eq_3)) (And.intro (@Fl.nofz.eq_4) (@Fl.nofz.eq_5)))) (And.intro (And.intro (And.intro (@Fl.nofz.eq_6) (@Fl.nofz.eq_7)) (And.intro (@vio.eq_1) (@vxgo.eq_1))) (And.intro (And.intro (@vmv.eq_1) (@capOut.eq_1)) (And.intro (@capOut.eq_2) (@vs_a))))) (And.intro (And.intro (And.intro (And.intro (@vs_b) (@vs_c)) (And.intro (@vfloat.eq_1) (@vfloat.eq_2))) (And.intro (And.intro (@capBelow.eq_1) (@capBelow.eq_2)) (And.intro (@Fl.unio.eq_1) (@Fl.unio.eq_2)))) (And.intro (And.intro (And.intro (@keepZ.eq_1) (@keepZ.eq_2)) (And.intro (@keepZ.eq_3) (@keepZ.eq_4))) (And.intro (And.intro (@nilP.eq_1) (@nilP.eq_2)) (And.intro (@moveTup.eq_1) (@moveTup.eq_2))))))))
theorem gA : type_of% (@List.getElem?_toArray.{0}) := @List.getElem?_toArray.{0}
theorem gB : type_of% (@List.filterMap_nil.{0, 0}) := @List.filterMap_nil.{0, 0}
theorem gC : type_of% (@List.filterMap_cons.{0, 0}) := @List.filterMap_cons.{0, 0}
theorem gD : type_of% (@List.contains_cons.{0}) := @List.contains_cons.{0}
theorem gE : type_of% (@List.getElem?_cons_succ.{0}) := @List.getElem?_cons_succ.{0}
theorem gF : type_of% (@List.getElem?_cons_zero.{0}) := @List.getElem?_cons_zero.{0}
theorem gG : type_of% (@Option.bind_some.{0, 0}) := @Option.bind_some.{0, 0}
end Go.Proofs.YtoeblmcibheldaaGreatDoor.V
end
section
/- The rewriting words in one, the rest. No condition. -/
namespace Go.Proofs.YtoeblmcibheldaaGreatDoor.V
open Go Go.RowKit
theorem wq0 : type_of% (And.intro (And.intro (And.intro (And.intro (And.intro (And.intro @List.replicate.eq_1.{0} @List.replicate.eq_2.{0}) (And.intro @List.set.eq_1.{0} @List.set.eq_2.{0})) (And.intro (And.intro @List.set.eq_3.{0} @List.map.eq_1.{0,0}) (And.intro @List.map.eq_2.{0,0} @List.any.eq_1.{0}))) (And.intro (And.intro (And.intro @List.any.eq_2.{0} @List.append.eq_1.{0}) (And.intro @List.append.eq_2.{0} @Call.operands.eq_1)) (And.intro (And.intro @Op.operands.eq_1 @Op.operands.eq_2) (And.intro @Op.operands.eq_3 @Op.operands.eq_4)))) (And.intro (And.intro (And.intro (And.intro @Op.operands.eq_5 @Op.operands.eq_6) (And.intro @Op.operands.eq_7 @Op.operands.eq_8)) (And.intro (And.intro @Op.operands.eq_9 @Op.operands.eq_10) (And.intro @Op.operands.eq_11 @Op.operands.eq_12))) (And.intro (And.intro (And.intro @Op.operands.eq_13 @Op.operands.eq_14) (And.intro @Op.operands.eq_15 @Op.operands.eq_16)) (And.intro (And.intro @Op.operands.eq_17 @Op.operands.eq_18) (And.intro @Op.operands.eq_19 @Op.operands.eq_20))))) (And.intro (And.intro (And.intro (And.intro (And.intro @Op.operands.eq_21 @Op.operands.eq_22) (And.intro @Op.operands.eq_23 @Op.operands.eq_24)) (And.intro (And.intro @Op.operands.eq_25 @Op.operands.eq_26) (And.intro @Op.operands.eq_27 @Op.operands.eq_28))) (And.intro (And.intro (And.intro @Op.operands.eq_29 @Op.operands.eq_30) (And.intro @Op.operands.eq_31 @Op.operands.eq_32)) (And.intro (And.intro @Op.operands.eq_33 @Op.operands.eq_34) (And.intro @Op.operands.eq_35 @Op.operands.eq_36)))) (And.intro (And.intro (And.intro (And.intro @Op.operands.eq_37 @Op.operands.eq_38) (And.intro @Op.operands.eq_39 @Op.operands.eq_40)) (And.intro (And.intro @Op.operands.eq_41 @Op.operands.eq_42) (And.intro @Op.operands.eq_43 @dif_pos.{1}))) (And.intro (And.intro (And.intro @gA @gB) (And.intro @gC @gD)) (And.intro (And.intro @gE @gF) (And.intro @gG (And.intro @bq @vq))))))) := (And.intro (And.intro (And.intro (And.intro (And.intro (And.intro @List.replicate.eq_1.{0} @List.replicate.eq_2.{0}) (And.intro @List.set.eq_1.{0} @List.set.eq_2.{0})) (And.intro (And.intro @List.set.eq_3.{0} @List.map.eq_1.{0,0}) (And.intro @List.map.eq_2.{0,0} @List.any.eq_1.{0}))) (And.intro (And.intro (And.intro @List.any.eq_2.{0} @List.append.eq_1.{0}) (And.intro @List.append.eq_2.{0} @Call.operands.eq_1)) (And.intro (And.intro @Op.operands.eq_1 @Op.operands.eq_2) (And.intro @Op.operands.eq_3 @Op.operands.eq_4)))) (And.intro (And.intro (And.intro (And.intro @Op.operands.eq_5 @Op.operands.eq_6) (And.intro @Op.operands.eq_7 @Op.operands.eq_8)) (And.intro (And.intro @Op.operands.eq_9 @Op.operands.eq_10) (And.intro @Op.operands.eq_11 @Op.operands.eq_12))) (And.intro (And.intro (And.intro @Op.operands.eq_13 @Op.operands.eq_14) (And.intro @Op.operands.eq_15 @Op.operands.eq_16)) (And.intro (And.intro @Op.operands.eq_17 @Op.operands.eq_18) (And.intro @Op.operands.eq_19 @Op.operands.eq_20))))) (And.intro (And.intro (And.intro (And.intro (And.intro @Op.operands.eq_21 @Op.operands.eq_22) (And.intro @Op.operands.eq_23 @Op.operands.eq_24)) (And.intro (And.intro @Op.operands.eq_25 @Op.operands.eq_26) (And.intro @Op.operands.eq_27 @Op.operands.eq_28))) (And.intro (And.intro (And.intro @Op.operands.eq_29 @Op.operands.eq_30) (And.intro @Op.operands.eq_31 @Op.operands.eq_32)) (And.intro (And.intro @Op.operands.eq_33 @Op.operands.eq_34) (And.intro @Op.operands.eq_35 @Op.operands.eq_36)))) (And.intro (And.intro (And.intro (And.intro @Op.operands.eq_37 @Op.operands.eq_38) (And.intro @Op.operands.eq_39 @Op.operands.eq_40)) (And.intro (And.intro @Op.operands.eq_41 @Op.operands.eq_42) (And.intro @Op.operands.eq_43 @dif_pos.{1}))) (And.intro (And.intro (And.intro @gA @gB) (And.intro @gC @gD)) (And.intro (And.intro @gE @gF) (And.intro @gG (And.intro @bq @vq)))))))
theorem wn : type_of% (And.intro (And.intro (And.intro (And.intro @norm.eq_1 @homeOne.eq_1) (And.intro @homeOne.eq_2 @moveTo.eq_1)) (And.intro (And.intro @keepS.eq_1 @keepGo.eq_1) (And.intro @keepGo.eq_2 (And.intro @usesOut.eq_1 @usesOut.eq_2)))) (And.intro (And.intro (And.intro @usesOut.eq_3 @usesOut.eq_4) (And.intro @ren.eq_1 (And.intro @ren.eq_2 @ren.eq_3))) (And.intro (And.intro @ren.eq_4 @renC.eq_1) (And.intro @renC.eq_2 (And.intro @List.foldl.eq_1.{0,0} @List.foldl.eq_2.{0,0}))))) := (And.intro (And.intro (And.intro (And.intro @norm.eq_1 @homeOne.eq_1) (And.intro @homeOne.eq_2 @moveTo.eq_1)) (And.intro (And.intro @keepS.eq_1 @keepGo.eq_1) (And.intro @keepGo.eq_2 (And.intro @usesOut.eq_1 @usesOut.eq_2)))) (And.intro (And.intro (And.intro @usesOut.eq_3 @usesOut.eq_4) (And.intro @ren.eq_1 (And.intro @ren.eq_2 @ren.eq_3))) (And.intro (And.intro @ren.eq_4 @renC.eq_1) (And.intro @renC.eq_2 (And.intro @List.foldl.eq_1.{0,0} @List.foldl.eq_2.{0,0})))))
end Go.Proofs.YtoeblmcibheldaaGreatDoor.V
end
end
section
namespace Go.Proofs.YtoeblmcibheldaaGreatDoor.V
open Go Go.RowKit
section
variable {P : Program} {T : List (Nat × TI)} {st : St} {o : Oper}
/-- an element of a variable that is an array of texts -/
theorem does_gidx {t e : TypeId} {g n : Nat} {cs : Array Value} {y : Operand} {k : IntKind} {i : Int} {b : ByteArray} (ho : o.op = .indexAddr t (.global g) y) (hu : P.underlying t = some (.array n e)) (hi0 : (P.info? e).map (·.size) = some 1)
  (hg : (g, (· = cs)) ∈ gls) (hy : ref st y = .v false (.int k) i) (hb : 0 ≤ i ∧ i < (n : Int)) (hc : cs[i.toNat]? = some (.string b)) (hd : nonroot st o.dst = true) : Does P o st (· = setD st o.dst (.fadr .str b)) := by
 refine Does.pure hd rfl fun L a w hr => ?_
 obtain ⟨ti, hi, h1⟩ := Option.map_eq_some_iff.1 hi0
 have hy0 := hr.opnd y
 rw [hy] at hy0
 have hyv := hy0.int
 obtain ⟨z, cs', x1, x2, e1, e2⟩ := hr.zlt.gl _ hg
 have e2 : cs' = cs := e2
 subst e2
 have hz : ∀ w, (sizeOf e).run P w = .ok 1 w := fun w => by rw [run_size hi, h1]
 refine ⟨.pointer (some ((⟨g, 0, none⟩ : Addr).add i.toNat)), ?_, ⟨_, [.string b], rfl, rfl, ?_, ?_, ?_⟩⟩
 ·have hx : a.eval (.global g) = .pointer (some ⟨g, 0, none⟩) := rfl
  simp [execOp, ho, hx, hyv, Instr.indexAt, Instr.sureAddr, run_underlying hu, asIntOf, hb.1, hb.2, hz]
 ·rw [add_block]; exact z
 ·intro j hj
  obtain rfl : j = 0 := Nat.lt_one_iff.1 hj
  have e1 : w.heap[g]? = some (.cells cs' x1 x2) := e1
  rw [add_add, Nat.add_zero, cell_row e1, hc]
  rfl
 ·simp [Rep]
end
end Go.Proofs.YtoeblmcibheldaaGreatDoor.V
end
section
namespace Go.Proofs.YtoeblmcibheldaaGreatDoor.V
open Go
def bs (l : List UInt8) : ByteArray := ⟨l.toArray⟩
theorem bs_app (a b : List UInt8) : bs a ++ bs b = bs (a ++ b) := by
 apply ByteArray.ext
 show (bs a ++ bs b).data = _
 rw [ByteArray.data_append]
 simp [bs]
theorem bs_size (a : List UInt8) : (bs a).size = a.length := by simp [bs, ByteArray.size]
/-- the digits of a number, none of nought -/
def dd (u : Nat) : List UInt8 := if u = 0 then [] else Lib.decDigits u
theorem dd_step {u : Nat} (h : u ≠ 0) : dd u = dd (u / 10) ++ [UInt8.ofNat (48 + u % 10)] := by
 rw [dd, if_neg h, Lib.decDigits]
 split
 ·rename_i h1
  rw [show u / 10 = 0 by omega, dd, if_pos rfl, show u % 10 = u by omega]
  rfl
 ·rw [dd, if_neg (by omega)]
theorem itoa_dd {n : Int} (h : n ≠ 0) : Lib.itoa n = (if n < 0 then [45] else []) ++ dd n.natAbs := by
 have hd : dd n.natAbs = Lib.decDigits n.natAbs := if_neg (by omega)
 rw [hd]
 by_cases hn : n < 0
 ·rw [Lib.itoa, if_pos hn, if_pos hn]
  rfl
 ·rw [Lib.itoa, if_neg hn, if_neg hn, show n.natAbs = n.toNat by omega]
  rfl
theorem itoa_zero : Lib.itoa 0 = [48] := by
 rw [Lib.itoa, if_neg (by decide), Lib.decDigits_one (by decide)]
 rfl
theorem itoa_len {n : Int} (h0 : -9223372036854775808 ≤ n) (h1 : n ≤ 9223372036854775807) : (bs (Lib.itoa n)).size ≤ 21 := by
 rw [bs_size]
 exact Lib.itoa_length_le n h0 h1
end Go.Proofs.YtoeblmcibheldaaGreatDoor.V
end
section
namespace Go.Proofs.YtoeblmcibheldaaGreatDoor.V
open Go
def isD (b : UInt8) : Bool := decide (48 ≤ b.toNat) && decide (b.toNat ≤ 57)
def valA (a : Nat) (l : List UInt8) : Nat := l.foldl (fun n b => 10 * n + (b.toNat - 48)) a
def puOk (l : List UInt8) : Bool := decide (l.length ≤ 10) && (l.all isD && (decide (valA 0 l ≤ 1000000000) && decide (Lib.itoa (valA 0 l : Nat) = l)))
def pu (l : List UInt8) : Int × Bool := if puOk l = true then ((valA 0 l : Nat), true) else (0, false)
theorem valA_app (a : Nat) (l m : List UInt8) : valA a (l ++ m) = valA (valA a l) m := by simp [valA]
theorem valA_ge : ∀ (l : List UInt8) (a : Nat), a ≤ valA a l
 | [], a => Nat.le_refl _
 | b :: r, a => by
  have := valA_ge r (10 * a + (b.toNat - 48))
  show a ≤ valA (10 * a + (b.toNat - 48)) r
  omega
theorem dig_toNat {d : Nat} (h : d < 10) : (UInt8.ofNat (48 + d)).toNat = 48 + d := by
 rw [UInt8.toNat_ofNat', Nat.mod_eq_of_lt (by omega)]
theorem dd_facts : ∀ (u : Nat), (dd u).all isD = true ∧ valA 0 (dd u) = u := by
 intro u
 induction u using Nat.strongRecOn with
 | ind u ih =>
  by_cases h : u = 0
  ·subst h
   exact ⟨rfl, rfl⟩
  ·obtain ⟨i1, i2⟩ := ih (u / 10) (by omega)
   have h10 : u % 10 < 10 := Nat.mod_lt _ (by decide)
   rw [dd_step h]
   refine ⟨?_, ?_⟩
   ·rw [List.all_append, i1]
    simp only [List.all_cons, List.all_nil, Bool.and_true, Bool.true_and, isD, dig_toNat h10]
    simp
    omega
   ·rw [valA_app, i2]
    show 10 * (u / 10) + ((UInt8.ofNat (48 + u % 10)).toNat - 48) = u
    rw [dig_toNat h10]
    omega
theorem dd_len : ∀ (k u : Nat), u < 10 ^ k → (dd u).length ≤ k
 | 0, u, h => by
  have : u = 0 := by simpa using h
  subst this
  exact Nat.le_refl _
 | k + 1, u, h => by
  by_cases h0 : u = 0
  ·subst h0
   exact Nat.zero_le _
  ·rw [dd_step h0, List.length_append]
   have := dd_len k (u / 10) (by rw [Nat.pow_succ] at h; omega)
   simp only [List.length_cons, List.length_nil]
   omega
theorem itoa_nat (v : Nat) : Lib.itoa (v : Int) = if v = 0 then [48] else dd v := by
 by_cases h : v = 0
 ·subst h
  rw [if_pos rfl]
  exact itoa_zero
 ·rw [if_neg h, itoa_dd (by omega), if_neg (by omega), Int.natAbs_natCast]
  rfl
theorem itoa_facts {v : Nat} (h : v ≤ 1000000000) : (Lib.itoa (v : Int)).length ≤ 10 ∧ (Lib.itoa (v : Int)).all isD = true ∧ valA 0 (Lib.itoa (v : Int)) = v ∧ Lib.itoa (v : Int) ≠ [] := by
 rw [itoa_nat]
 split
 ·rename_i e
  subst e
  exact ⟨by decide, by decide, by decide, by decide⟩
 ·rename_i e
  obtain ⟨a, b⟩ := dd_facts v
  refine ⟨dd_len 10 v (by omega), a, b, fun q => ?_⟩
  rw [q] at b
  exact e b.symm
theorem pu_itoa {v : Nat} (h : v ≤ 1000000000) : pu (Lib.itoa (v : Int)) = ((v : Int), true) := by
 obtain ⟨a, b, c, _⟩ := itoa_facts h
 rw [pu, if_pos, c]
 rw [puOk, decide_eq_true a, b, c, decide_eq_true h, decide_eq_true rfl]
 rfl
theorem puOk_iff {l : List UInt8} : puOk l = true ↔ ∃ v : Nat, v ≤ 1000000000 ∧ Lib.itoa (v : Int) = l := by
 constructor
 ·intro h
  simp only [puOk, Bool.and_eq_true, decide_eq_true_eq] at h
  exact ⟨_, h.2.2.1, h.2.2.2⟩
 ·rintro ⟨v, h, rfl⟩
  obtain ⟨a, b, c, _⟩ := itoa_facts h
  rw [puOk, decide_eq_true a, b, c, decide_eq_true h, decide_eq_true rfl]
  rfl
theorem pu10 : ∀ (l : List UInt8) (a : Nat), l.all isD = true → valA a l ≤ 1000000000 → Lib.parseUint10 a l = .ok (valA a l)
 | [], a, _, _ => rfl
 | b :: r, a, h1, h2 => by
  simp only [List.all_cons, Bool.and_eq_true] at h1
  have hb : 48 ≤ b.toNat ∧ b.toNat ≤ 57 := by simpa [isD] using h1.1
  have h2 : valA (10 * a + (b.toNat - 48)) r ≤ 1000000000 := h2
  have := valA_ge r (10 * a + (b.toNat - 48))
  rw [Lib.parseUint10, if_pos hb, if_neg (by omega), if_neg (by omega), Nat.mul_comm a 10]
  exact pu10 r _ h1.2 h2
theorem atoi_itoa {v : Nat} (h : v ≤ 1000000000) : Lib.atoiAll (Lib.itoa (v : Int)) = .ok (v : Int) := by
 obtain ⟨_, b, c, d⟩ := itoa_facts h
 generalize Lib.itoa (v : Int) = l at *
 cases l with
 | nil => exact absurd rfl d
 | cons x r =>
  have hx : isD x = true := by
   simp only [List.all_cons, Bool.and_eq_true] at b
   exact b.1
  have hx : 48 ≤ x.toNat ∧ x.toNat ≤ 57 := by simpa [isD] using hx
  have hp := pu10 (x :: r) 0 b (by omega)
  rw [c] at hp
  simp only [Lib.atoiAll]
  rw [if_neg (by omega), Lib.parseMag, if_neg (by simp), hp]
  simp only
  rw [if_neg (by omega), if_neg (by omega), if_neg (by omega)]
theorem pu_of {l : List UInt8} {v : Int} (h0 : 0 ≤ v) (h1 : v ≤ 1000000000) (h : Lib.itoa v = l) : pu l = (v, true) := by
 obtain ⟨n, rfl⟩ := Int.eq_ofNat_of_zero_le h0
 subst h
 exact pu_itoa (by omega)
theorem pu_no {l : List UInt8} (h : ∀ v : Nat, v ≤ 1000000000 → Lib.itoa (v : Int) = l → False) : pu l = (0, false) := by
 rw [pu, if_neg]
 intro hp
 obtain ⟨v, a, b⟩ := puOk_iff.1 hp
 exact h v a b
/-! ### fields -/
def inR (b : UInt8) : Bool := decide (32 ≤ b.toNat) && decide (b.toNat ≤ 126)
theorem sp_inR {b : UInt8} (h : inR b = true) : Lib.isSp b = decide (b.toNat = 32) := by
 have h : 32 ≤ b.toNat ∧ b.toNat ≤ 126 := by simpa [inR] using h
 have e : ∀ k : UInt8, (b == k) = decide (b.toNat = k.toNat) := fun k => by
  rw [Bool.eq_iff_iff, beq_iff_eq, decide_eq_true_eq, UInt8.toNat_inj]
 rw [Lib.isSp, e, e, e, e, e, e]
 have : ∀ n : Nat, n < 32 → decide (b.toNat = n) = false := fun n hn => decide_eq_false (by omega)
 rw [show (9 : UInt8).toNat = 9 from rfl, show (10 : UInt8).toNat = 10 from rfl, show (11 : UInt8).toNat = 11 from rfl, show (12 : UInt8).toNat = 12 from rfl, show (13 : UInt8).toNat = 13 from rfl, show (32 : UInt8).toNat = 32 from rfl, this 9 (by decide), this 10 (by decide), this 11 (by decide), this 12 (by decide), this 13 (by decide)]
 rfl
def splitOk (l : List UInt8) : Bool := decide (l.length ≤ 600) && (l.all inR && decide ((Lib.fields l).length ≤ 24))
def splitF (l : List UInt8) : List ByteArray × Bool := if splitOk l = true then ((Lib.fields l).map bs, true) else ([], false)
theorem fieldsGo_len : ∀ (l cur : List UInt8), (Lib.fieldsGo cur l).length ≤ l.length + 1
 | [], cur => by
  rw [Lib.fieldsGo]
  split <;> simp
 | b :: r, cur => by
  rw [Lib.fieldsGo]
  split
  ·split
   ·have := fieldsGo_len r []
    simp only [List.length_cons]
    omega
   ·have := fieldsGo_len r []
    simp only [List.length_cons]
    omega
  ·have := fieldsGo_len r (cur ++ [b])
   simp only [List.length_cons]
   omega
theorem fieldsGo_in : ∀ (l cur : List UInt8), ∀ f ∈ Lib.fieldsGo cur l, f.length ≤ cur.length + l.length
 | [], cur, f, hf => by
  rw [Lib.fieldsGo] at hf
  split at hf
  ·cases hf
  ·obtain rfl := List.mem_singleton.1 hf
   exact Nat.le_add_right _ _
 | b :: r, cur, f, hf => by
  rw [Lib.fieldsGo] at hf
  simp only [List.length_cons]
  split at hf
  ·split at hf
   ·have := fieldsGo_in r [] f hf
    simp only [List.length_nil] at this
    omega
   ·rcases List.mem_cons.1 hf with rfl | hf
    ·omega
    ·have := fieldsGo_in r [] f hf
     simp only [List.length_nil] at this
     omega
  ·have := fieldsGo_in r (cur ++ [b]) f hf
   rw [List.length_append] at this
   simp only [List.length_cons, List.length_nil] at this
   omega
theorem fields_in {l f : List UInt8} (h : f ∈ Lib.fields l) : f.length ≤ l.length := by
 have := fieldsGo_in l [] f h
 simpa using this
end Go.Proofs.YtoeblmcibheldaaGreatDoor.V
end
section
namespace Go.Proofs
open Go.Shelf
def Tryz.lays156_ren : Go.Shelf.Ren := ⟨fun | 156 => 102 | 165 => 142 | 166 => 143 | 169 => 144 | 240 => 175 | 241 => 176 | 276 => 206 | 277 => 207 | n => n, fun | 31 => 34 | 9 => 9 | 3 => 3 | 4 => 4 | 0 => 0 | 20 => 20 | 72 => 170 | 76 => 166 | 70 => 168 | 37 => 22 | 75 => 165 | 127 => 204 | 164 => 231 | 5 => 5 | 80 => 172 | n => n, fun | n => n⟩
theorem Tryz.lays156 : Go.Proofs.Lays.n156 Tryz.prog Tryz.lays156_ren := {
 mixed := by kernel_rfl
 f156 := Tryz.func102.trans (congrArg some (by kernel_rfl))
 f165 := Tryz.func142.trans (congrArg some (by kernel_rfl))
 f166 := Tryz.func143.trans (congrArg some (by kernel_rfl))
 f169 := Tryz.func144.trans (congrArg some (by kernel_rfl))
 f240 := Tryz.func175.trans (congrArg some (by kernel_rfl))
 f241 := Tryz.func176.trans (congrArg some (by kernel_rfl))
 f276 := Tryz.func206.trans (congrArg some (by kernel_rfl))
 f277 := Tryz.func207.trans (congrArg some (by kernel_rfl))
 t0 := Tryz.underlying0
 a0 := Tryz.isAgg0
 z0 := Tryz.sizeOf0
 v0 := Tryz.zeroValue0
 t3 := Tryz.underlying3
 a3 := Tryz.isAgg3
 z3 := Tryz.sizeOf3
 v3 := Tryz.zeroValue3
 t4 := Tryz.underlying4
 a4 := Tryz.isAgg4
 z4 := Tryz.sizeOf4
 v4 := Tryz.zeroValue4
 t9 := Tryz.underlying9
 a9 := Tryz.isAgg9
 z9 := Tryz.sizeOf9
 v9 := Tryz.zeroValue9
 t20 := Tryz.underlying20
 a20 := Tryz.isAgg20
 z20 := Tryz.sizeOf20
 v20 := Tryz.zeroValue20
 t31 := Tryz.underlying34
 a31 := Tryz.isAgg34
 z31 := Tryz.sizeOf34
 v31 := Tryz.zeroValue34
 t37 := Tryz.underlying22
 a37 := Tryz.isAgg22
 z37 := Tryz.sizeOf22
 v37 := Tryz.zeroValue22
 t70 := Tryz.underlying168
 a70 := Tryz.isAgg168
 z70 := Tryz.sizeOf168
 v70 := Tryz.zeroValue168
 t72 := Tryz.underlying170
 a72 := Tryz.isAgg170
 z72 := Tryz.sizeOf170
 v72 := Tryz.zeroValue170
 t75 := Tryz.underlying165
 a75 := Tryz.isAgg165
 z75 := Tryz.sizeOf165
 v75 := Tryz.zeroValue165
 t76 := Tryz.underlying166
 a76 := Tryz.isAgg166
 z76 := Tryz.sizeOf166
 v76 := Tryz.zeroValue166
 t127 := Tryz.underlying204
 a127 := Tryz.isAgg204
 z127 := Tryz.sizeOf204
 v127 := Tryz.zeroValue204
 t164 := Tryz.underlying231
 a164 := Tryz.isAgg231
 z164 := Tryz.sizeOf231
 v164 := Tryz.zeroValue231 }
theorem Tryz.Builder_Extra_156 : Builder.Extra Tryz.prog Tryz.lays156_ren := {
 sizeBuilder := by kernel_rfl
 liesBuilder := by kernel_rfl
 t5 := Tryz.underlying5
 a5 := Tryz.isAgg5
 z5 := Tryz.sizeOf5
 v5 := Tryz.zeroValue5
 infoByte := by kernel_rfl
 cellsByte := by kernel_rfl
 sizeByte := by kernel_rfl
 neB5 := by decide }
open Go.RowKit in
/-- No element: the empty string; the world is as it was. (Whatever the slice's address and capacity: a nil slice too.) (LAID: no walk: one application.) -/
theorem Tryz.strings_Join_none (a : Option Addr) (c : Nat) (sep : ByteArray) (w : World) :
  Calls Tryz.prog 102 #[.slice a 0 c, .string sep] w fun e w' => e = .returned (.string ⟨#[]⟩) ∧ w' = w := Any.strings_Join_none Tryz.lays156 Tryz.Builder_Extra_156 a c sep w
open Go.RowKit in
/-- strings.Join: "Join concatenates the elements of its first argument to create a single string. The separator string sep is placed between elements in the resulting string.": HOWEVER MANY ELEMENTS. Below the heap's end the world is as it was. (LAID: no walk: one application.) -/
theorem Tryz.strings_Join (bk o c : Nat) (xs : List ByteArray) (sep : ByteArray) (w : World) (hcells : ∀ (j : Nat) x, xs[j]? = some x → w.cell? ⟨bk, o + j, none⟩ = some (.string x)) (hbk : bk < w.heap.size) (hN : xs.length ≤ 140737488355328) (hcap : xs.length ≤ c) (hlen : (Lib.join (xs.map (·.data.toList)) sep.data.toList).length ≤ 140737488355328) :
  Calls Tryz.prog 102 #[.slice (some ⟨bk, o, none⟩) xs.length c, .string sep] w fun e w' => e = .returned (.string ⟨(Lib.join (xs.map (·.data.toList)) sep.data.toList).toArray⟩) ∧ Below w.heap.size w w' := Any.strings_Join Tryz.lays156 Tryz.Builder_Extra_156 bk o c xs sep w hcells hbk hN hcap hlen
def Tryz.laysC172_ren : Go.Shelf.Ren := ⟨fun | 172 => 141 | 244 => 173 | 245 => 174 | 247 => 201 | 279 => 202 | 280 => 203 | 281 => 204 | 282 => 205 | 287 => 223 | 316 => 224 | 171 => 32 | 205 => 225 | 321 => 238 | 322 => 239 | 243 => 80 | 246 => 128 | 283 => 162 | 284 => 163 | 285 => 164 | 286 => 165 | 129 => 189 | 317 => 188 | 318 => 190 | 319 => 191 | 320 => 192 | 337 => 219 | 338 => 220 | n => n, fun | 9 => 9 | 3 => 3 | 75 => 165 | 76 => 166 | 4 => 4 | 5 => 5 | 167 => 225 | 37 => 22 | 0 => 0 | 85 => 226 | 2 => 2 | 168 => 228 | 53 => 187 | 175 => 248 | 46 => 179 | 210 => 252 | 127 => 204 | 145 => 269 | 143 => 267 | 21 => 21 | 171 => 186 | 173 => 190 | 212 => 212 | 51 => 200 | 20 => 20 | 213 => 213 | 232 => 263 | 233 => 264 | 80 => 172 | n => n, fun | 15 => 7 | 16 => 8 | 17 => 3 | 18 => 9 | 19 => 10 | n => n⟩
theorem Tryz.laysC172 : Go.Proofs.LaysC.n172 Tryz.prog Tryz.laysC172_ren := {
 mixed := by kernel_rfl
 f129 := Tryz.func189.trans (congrArg some (by kernel_rfl))
 f171 := Tryz.func32.trans (congrArg some (by kernel_rfl))
 f172 := Tryz.func141.trans (congrArg some (by kernel_rfl))
 f205 := Tryz.func225.trans (congrArg some (by kernel_rfl))
 f243 := Tryz.func80.trans (congrArg some (by kernel_rfl))
 f244 := Tryz.func173.trans (congrArg some (by kernel_rfl))
 f245 := Tryz.func174.trans (congrArg some (by kernel_rfl))
 f246 := Tryz.func128.trans (congrArg some (by kernel_rfl))
 f247 := Tryz.func201.trans (congrArg some (by kernel_rfl))
 f279 := Tryz.func202.trans (congrArg some (by kernel_rfl))
 f280 := Tryz.func203.trans (congrArg some (by kernel_rfl))
 f281 := Tryz.func204.trans (congrArg some (by kernel_rfl))
 f282 := Tryz.func205.trans (congrArg some (by kernel_rfl))
 f283 := Tryz.func162.trans (congrArg some (by kernel_rfl))
 f284 := Tryz.func163.trans (congrArg some (by kernel_rfl))
 f285 := Tryz.func164.trans (congrArg some (by kernel_rfl))
 f286 := Tryz.func165.trans (congrArg some (by kernel_rfl))
 f287 := Tryz.func223.trans (congrArg some (by kernel_rfl))
 f316 := Tryz.func224.trans (congrArg some (by kernel_rfl))
 f317 := Tryz.func188.trans (congrArg some (by kernel_rfl))
 f318 := Tryz.func190.trans (congrArg some (by kernel_rfl))
 f319 := Tryz.func191.trans (congrArg some (by kernel_rfl))
 f320 := Tryz.func192.trans (congrArg some (by kernel_rfl))
 f321 := Tryz.func238.trans (congrArg some (by kernel_rfl))
 f322 := Tryz.func239.trans (congrArg some (by kernel_rfl))
 f337 := Tryz.func219.trans (congrArg some (by kernel_rfl))
 f338 := Tryz.func220.trans (congrArg some (by kernel_rfl))
 t0 := Tryz.underlying0
 a0 := Tryz.isAgg0
 z0 := Tryz.sizeOf0
 v0 := Tryz.zeroValue0
 t2 := Tryz.underlying2
 a2 := Tryz.isAgg2
 z2 := Tryz.sizeOf2
 v2 := Tryz.zeroValue2
 t3 := Tryz.underlying3
 a3 := Tryz.isAgg3
 z3 := Tryz.sizeOf3
 v3 := Tryz.zeroValue3
 t4 := Tryz.underlying4
 a4 := Tryz.isAgg4
 z4 := Tryz.sizeOf4
 v4 := Tryz.zeroValue4
 t5 := Tryz.underlying5
 a5 := Tryz.isAgg5
 z5 := Tryz.sizeOf5
 v5 := Tryz.zeroValue5
 t9 := Tryz.underlying9
 a9 := Tryz.isAgg9
 z9 := Tryz.sizeOf9
 v9 := Tryz.zeroValue9
 t20 := Tryz.underlying20
 a20 := Tryz.isAgg20
 z20 := Tryz.sizeOf20
 v20 := Tryz.zeroValue20
 t21 := Tryz.underlying21
 a21 := Tryz.isAgg21
 z21 := Tryz.sizeOf21
 v21 := Tryz.zeroValue21
 t37 := Tryz.underlying22
 a37 := Tryz.isAgg22
 z37 := Tryz.sizeOf22
 v37 := Tryz.zeroValue22
 t46 := Tryz.underlying179
 a46 := Tryz.isAgg179
 z46 := Tryz.sizeOf179
 v46 := Tryz.zeroValue179
 t51 := Tryz.underlying200
 a51 := Tryz.isAgg200
 z51 := Tryz.sizeOf200
 v51 := Tryz.zeroValue200
 t53 := Tryz.underlying187
 a53 := Tryz.isAgg187
 z53 := Tryz.sizeOf187
 v53 := Tryz.zeroValue187
 t75 := Tryz.underlying165
 a75 := Tryz.isAgg165
 z75 := Tryz.sizeOf165
 v75 := Tryz.zeroValue165
 t76 := Tryz.underlying166
 a76 := Tryz.isAgg166
 z76 := Tryz.sizeOf166
 v76 := Tryz.zeroValue166
 t85 := Tryz.underlying226
 a85 := Tryz.isAgg226
 z85 := Tryz.sizeOf226
 v85 := Tryz.zeroValue226
 t127 := Tryz.underlying204
 a127 := Tryz.isAgg204
 z127 := Tryz.sizeOf204
 v127 := Tryz.zeroValue204
 t143 := Tryz.underlying267
 a143 := Tryz.isAgg267
 z143 := Tryz.sizeOf267
 v143 := Tryz.zeroValue267
 t145 := Tryz.underlying269
 a145 := Tryz.isAgg269
 z145 := Tryz.sizeOf269
 v145 := Tryz.zeroValue269
 t167 := Tryz.underlying225
 a167 := Tryz.isAgg225
 z167 := Tryz.sizeOf225
 v167 := Tryz.zeroValue225
 t168 := Tryz.underlying228
 a168 := Tryz.isAgg228
 z168 := Tryz.sizeOf228
 v168 := Tryz.zeroValue228
 t171 := Tryz.underlying186
 a171 := Tryz.isAgg186
 z171 := Tryz.sizeOf186
 v171 := Tryz.zeroValue186
 t173 := Tryz.underlying190
 a173 := Tryz.isAgg190
 z173 := Tryz.sizeOf190
 v173 := Tryz.zeroValue190
 t175 := Tryz.underlying248
 a175 := Tryz.isAgg248
 z175 := Tryz.sizeOf248
 v175 := Tryz.zeroValue248
 t210 := Tryz.underlying252
 a210 := Tryz.isAgg252
 z210 := Tryz.sizeOf252
 v210 := Tryz.zeroValue252
 t212 := Tryz.underlying212
 a212 := Tryz.isAgg212
 z212 := Tryz.sizeOf212
 v212 := Tryz.zeroValue212
 t213 := Tryz.underlying213
 a213 := Tryz.isAgg213
 z213 := Tryz.sizeOf213
 t232 := Tryz.underlying263
 a232 := Tryz.isAgg263
 z232 := Tryz.sizeOf263
 v232 := Tryz.zeroValue263
 t233 := Tryz.underlying264
 a233 := Tryz.isAgg264
 z233 := Tryz.sizeOf264
 v233 := Tryz.zeroValue264
 g15 := by kernel_rfl
 g16 := by kernel_rfl
 g17 := by kernel_rfl
 g18 := by kernel_rfl
 g19 := by kernel_rfl
 t80 := Tryz.underlying172
 a80 := Tryz.isAgg172
 z80 := Tryz.sizeOf172
 v80 := Tryz.zeroValue172
 i0 := by kernel_rfl
 i2 := by kernel_rfl
 i3 := by kernel_rfl
 i4 := by kernel_rfl
 i5 := by kernel_rfl
 i9 := by kernel_rfl
 i20 := by kernel_rfl
 i21 := by kernel_rfl
 i37 := by kernel_rfl
 i46 := by kernel_rfl
 i51 := by kernel_rfl
 i53 := by kernel_rfl
 i75 := by kernel_rfl
 i76 := by kernel_rfl
 i80 := by kernel_rfl
 i85 := by kernel_rfl
 i127 := by kernel_rfl
 i143 := by kernel_rfl
 i145 := by kernel_rfl
 i167 := by kernel_rfl
 i168 := by kernel_rfl
 i171 := by kernel_rfl
 i173 := by kernel_rfl
 i175 := by kernel_rfl
 i210 := by kernel_rfl
 i212 := by kernel_rfl
 i232 := by kernel_rfl
 i233 := by kernel_rfl
 m15 := by kernel_rfl
 m16 := by kernel_rfl
 m17 := by kernel_rfl
 m18 := by kernel_rfl
 m19 := by kernel_rfl
 c0 := by kernel_rfl
 c2 := by kernel_rfl
 c3 := by kernel_rfl
 c4 := by kernel_rfl
 c5 := by kernel_rfl
 c9 := by kernel_rfl
 c20 := by kernel_rfl
 c21 := by kernel_rfl
 c37 := by kernel_rfl
 c46 := by kernel_rfl
 c51 := by kernel_rfl
 c53 := by kernel_rfl
 c75 := by kernel_rfl
 c76 := by kernel_rfl
 c80 := by kernel_rfl
 c85 := by kernel_rfl
 c127 := by kernel_rfl
 c143 := by kernel_rfl
 c145 := by kernel_rfl
 c167 := by kernel_rfl
 c168 := by kernel_rfl
 c171 := by kernel_rfl
 c173 := by kernel_rfl
 c175 := by kernel_rfl
 c210 := by kernel_rfl
 c212 := by kernel_rfl
 c213 := by kernel_rfl
 c232 := by kernel_rfl
 c233 := by kernel_rfl }
open Go.RowKit in
/-- strconv.Atoi, AT EVERY STRING THAT SPELLS AN int ('Lib.atoiAll .. = .ok v'; of whatever length: leading zeros count): v, AND NO ERROR. The world: as it was, or with the one new row that '[]byte(..)' lays. (LAID: no walk: one application.) -/
theorem Tryz.strconv_Atoi_ok (s : ByteArray) (hmax : s.size ≤ 9223372036854775806) (v : Int) (h : Lib.atoiAll s.data.toList = .ok v) (w : World) :
  Calls Tryz.prog 141 #[.string s] w fun e w' => e = .returned (.tuple #[.int .i64 v, .nilIface]) ∧ (w' = w ∨ ∃ t, w' = Lib.bytesWorld w 5 t) := Any.strconv_Atoi_ok Tryz.laysC172 s hmax v h w
open Go.RowKit in
theorem Tryz.strconv_Atoi_syntax_var (s : ByteArray) (hlim : s.size ≤ 281474976710656) (h : Lib.atoiAll s.data.toList = Lib.NumEnd.syntax) (tp : TypeId) (p : Value) (w : World) (hvar : w.var? Tryz.prog "strconv.ErrSyntax" = some #[.iface tp p]) :
  Calls Tryz.prog 141 #[.string s] w fun e w' => ∃ N, e = .returned (.tuple #[.int .i64 0, .iface 228 (.pointer (some ⟨N, 0, none⟩))]) ∧ w.heap.size ≤ N ∧ w'.heap[N]? = some (.cells #[.string ⟨#[65, 116, 111, 105]⟩, .string s, .iface tp p] 252 (0, 0)) ∧ Below w.heap.size w w' := Any.strconv_Atoi_syntax_var Tryz.laysC172 s hlim h tp p w hvar
open Go.RowKit in
theorem Tryz.strconv_Atoi_range_var (s : ByteArray) (hlim : s.size ≤ 281474976710656) (h : Lib.atoiAll s.data.toList = .range) (tp : TypeId) (p : Value) (w : World) (hvar : w.var? Tryz.prog "strconv.ErrRange" = some #[.iface tp p]) :
  Calls Tryz.prog 141 #[.string s] w fun e w' => ∃ N, e = .returned (.tuple #[.int .i64 (Lib.atoiSat s.data.toList), .iface 228 (.pointer (some ⟨N, 0, none⟩))]) ∧ w.heap.size ≤ N ∧ w'.heap[N]? = some (.cells #[.string ⟨#[65, 116, 111, 105]⟩, .string s, .iface tp p] 252 (0, 0)) ∧ Below w.heap.size w w' := Any.strconv_Atoi_range_var Tryz.laysC172 s hlim h tp p w hvar
def Tryz.lays146_ren : Go.Shelf.Ren := ⟨fun | 146 => 63 | 221 => 97 | 268 => 136 | 138 => 137 | 143 => 138 | 195 => 168 | 197 => 169 | 218 => 170 | 219 => 171 | 260 => 194 | 217 => 195 | 225 => 196 | 224 => 197 | 267 => 198 | 266 => 221 | 314 => 222 | n => n, fun | 9 => 9 | 31 => 34 | 3 => 3 | 4 => 4 | 0 => 0 | 105 => 194 | 21 => 21 | 5 => 5 | 46 => 179 | 119 => 161 | 139 => 244 | 138 => 243 | 146 => 237 | 51 => 200 | n => n, fun | 1 => 4 | 3 => 5 | 4 => 6 | n => n⟩
theorem Tryz.lays146 : Go.Proofs.Lays.n146 Tryz.prog Tryz.lays146_ren := {
 mixed := by kernel_rfl
 f138 := Tryz.func137.trans (congrArg some (by kernel_rfl))
 f143 := Tryz.func138.trans (congrArg some (by kernel_rfl))
 f146 := Tryz.func63.trans (congrArg some (by kernel_rfl))
 f195 := Tryz.func168.trans (congrArg some (by kernel_rfl))
 f197 := Tryz.func169.trans (congrArg some (by kernel_rfl))
 f217 := Tryz.func195.trans (congrArg some (by kernel_rfl))
 f218 := Tryz.func170.trans (congrArg some (by kernel_rfl))
 f219 := Tryz.func171.trans (congrArg some (by kernel_rfl))
 f221 := Tryz.func97.trans (congrArg some (by kernel_rfl))
 f224 := Tryz.func197.trans (congrArg some (by kernel_rfl))
 f225 := Tryz.func196.trans (congrArg some (by kernel_rfl))
 f260 := Tryz.func194.trans (congrArg some (by kernel_rfl))
 f266 := Tryz.func221.trans (congrArg some (by kernel_rfl))
 f267 := Tryz.func198.trans (congrArg some (by kernel_rfl))
 f268 := Tryz.func136.trans (congrArg some (by kernel_rfl))
 f314 := Tryz.func222.trans (congrArg some (by kernel_rfl))
 t0 := Tryz.underlying0
 a0 := Tryz.isAgg0
 z0 := Tryz.sizeOf0
 v0 := Tryz.zeroValue0
 t3 := Tryz.underlying3
 a3 := Tryz.isAgg3
 z3 := Tryz.sizeOf3
 v3 := Tryz.zeroValue3
 t4 := Tryz.underlying4
 a4 := Tryz.isAgg4
 z4 := Tryz.sizeOf4
 v4 := Tryz.zeroValue4
 t5 := Tryz.underlying5
 a5 := Tryz.isAgg5
 z5 := Tryz.sizeOf5
 v5 := Tryz.zeroValue5
 t9 := Tryz.underlying9
 a9 := Tryz.isAgg9
 z9 := Tryz.sizeOf9
 v9 := Tryz.zeroValue9
 t21 := Tryz.underlying21
 a21 := Tryz.isAgg21
 z21 := Tryz.sizeOf21
 v21 := Tryz.zeroValue21
 t31 := Tryz.underlying34
 a31 := Tryz.isAgg34
 z31 := Tryz.sizeOf34
 v31 := Tryz.zeroValue34
 t46 := Tryz.underlying179
 a46 := Tryz.isAgg179
 z46 := Tryz.sizeOf179
 v46 := Tryz.zeroValue179
 t51 := Tryz.underlying200
 a51 := Tryz.isAgg200
 z51 := Tryz.sizeOf200
 v51 := Tryz.zeroValue200
 t105 := Tryz.underlying194
 a105 := Tryz.isAgg194
 z105 := Tryz.sizeOf194
 v105 := Tryz.zeroValue194
 t119 := Tryz.underlying161
 a119 := Tryz.isAgg161
 z119 := Tryz.sizeOf161
 t138 := Tryz.underlying243
 a138 := Tryz.isAgg243
 z138 := Tryz.sizeOf243
 v138 := Tryz.zeroValue243
 t139 := Tryz.underlying244
 a139 := Tryz.isAgg244
 z139 := Tryz.sizeOf244
 v139 := Tryz.zeroValue244
 t146 := Tryz.underlying237
 a146 := Tryz.isAgg237
 z146 := Tryz.sizeOf237
 v146 := Tryz.zeroValue237
 g1 := by kernel_rfl
 g3 := by kernel_rfl
 g4 := by kernel_rfl }
open Go.RowKit Go.Lib in
/-- strings.Split. (LAID: no walk: one application.) -/
theorem Tryz.strings_Split (s sep : ByteArray) (m : Int) (w : World) (hs : s.size < 4294967281) (hm : w.cell? ⟨4, 0, none⟩ = some (.int .i64 m)) (h1 : 1 ≤ sep.size) :
  Calls Tryz.prog 63 #[.string s, .string sep] w fun e w' =>
   e = .returned (.slice (some ⟨w.heap.size, 0, none⟩) (Lib.countB s sep + 1) (Lib.countB s sep + 1)) ∧ w' = w.alloc (.cells ((Lib.splitB sep 0 (Lib.countB s sep) s).map Value.string).toArray 9) := Any.strings_Split Tryz.lays146 (by kernel_rfl) s sep m w hs hm h1
def Tryz.laysM146_ren : Go.Shelf.Ren := ⟨fun | 146 => 63 | 221 => 97 | 268 => 136 | 138 => 137 | 143 => 138 | 195 => 168 | 197 => 169 | 218 => 170 | 219 => 171 | 260 => 194 | 217 => 195 | 225 => 196 | 224 => 197 | 267 => 198 | 266 => 221 | 314 => 222 | n => n, fun | 9 => 9 | 31 => 34 | 3 => 3 | 4 => 4 | 0 => 0 | 105 => 194 | 21 => 21 | 5 => 5 | 46 => 179 | 119 => 161 | 139 => 244 | 138 => 243 | 146 => 237 | 51 => 200 | n => n, fun | 1 => 4 | 3 => 5 | 4 => 6 | n => n⟩
theorem Tryz.laysM146 : Go.Proofs.LaysM.n146 Tryz.prog Tryz.laysM146_ren := {
 mixed := by kernel_rfl
 f138 := Tryz.func137.trans (congrArg some (by kernel_rfl))
 f143 := Tryz.func138.trans (congrArg some (by kernel_rfl))
 f146 := Tryz.func63.trans (congrArg some (by kernel_rfl))
 f195 := Tryz.func168.trans (congrArg some (by kernel_rfl))
 f197 := Tryz.func169.trans (congrArg some (by kernel_rfl))
 f217 := Tryz.func195.trans (congrArg some (by kernel_rfl))
 f218 := Tryz.func170.trans (congrArg some (by kernel_rfl))
 f219 := Tryz.func171.trans (congrArg some (by kernel_rfl))
 f221 := Tryz.func97.trans (congrArg some (by kernel_rfl))
 f224 := Tryz.func197.trans (congrArg some (by kernel_rfl))
 f225 := Tryz.func196.trans (congrArg some (by kernel_rfl))
 f260 := Tryz.func194.trans (congrArg some (by kernel_rfl))
 f266 := Tryz.func221.trans (congrArg some (by kernel_rfl))
 f267 := Tryz.func198.trans (congrArg some (by kernel_rfl))
 f268 := Tryz.func136.trans (congrArg some (by kernel_rfl))
 f314 := Tryz.func222.trans (congrArg some (by kernel_rfl))
 t0 := Tryz.underlying0
 a0 := Tryz.isAgg0
 z0 := Tryz.sizeOf0
 v0 := Tryz.zeroValue0
 t3 := Tryz.underlying3
 a3 := Tryz.isAgg3
 z3 := Tryz.sizeOf3
 v3 := Tryz.zeroValue3
 t4 := Tryz.underlying4
 a4 := Tryz.isAgg4
 z4 := Tryz.sizeOf4
 v4 := Tryz.zeroValue4
 t5 := Tryz.underlying5
 a5 := Tryz.isAgg5
 z5 := Tryz.sizeOf5
 v5 := Tryz.zeroValue5
 t9 := Tryz.underlying9
 a9 := Tryz.isAgg9
 z9 := Tryz.sizeOf9
 v9 := Tryz.zeroValue9
 t21 := Tryz.underlying21
 a21 := Tryz.isAgg21
 z21 := Tryz.sizeOf21
 v21 := Tryz.zeroValue21
 t31 := Tryz.underlying34
 a31 := Tryz.isAgg34
 z31 := Tryz.sizeOf34
 v31 := Tryz.zeroValue34
 t46 := Tryz.underlying179
 a46 := Tryz.isAgg179
 z46 := Tryz.sizeOf179
 v46 := Tryz.zeroValue179
 t51 := Tryz.underlying200
 a51 := Tryz.isAgg200
 z51 := Tryz.sizeOf200
 v51 := Tryz.zeroValue200
 t105 := Tryz.underlying194
 a105 := Tryz.isAgg194
 z105 := Tryz.sizeOf194
 v105 := Tryz.zeroValue194
 t119 := Tryz.underlying161
 a119 := Tryz.isAgg161
 z119 := Tryz.sizeOf161
 t138 := Tryz.underlying243
 a138 := Tryz.isAgg243
 z138 := Tryz.sizeOf243
 v138 := Tryz.zeroValue243
 t139 := Tryz.underlying244
 a139 := Tryz.isAgg244
 z139 := Tryz.sizeOf244
 v139 := Tryz.zeroValue244
 t146 := Tryz.underlying237
 a146 := Tryz.isAgg237
 z146 := Tryz.sizeOf237
 v146 := Tryz.zeroValue237
 g1 := by kernel_rfl
 g3 := by kernel_rfl
 g4 := by kernel_rfl
 i0 := by kernel_rfl
 i3 := by kernel_rfl
 i4 := by kernel_rfl
 i5 := by kernel_rfl
 i9 := by kernel_rfl
 i21 := by kernel_rfl
 i31 := by kernel_rfl
 i46 := by kernel_rfl
 i51 := by kernel_rfl
 i105 := by kernel_rfl
 i138 := by kernel_rfl
 i139 := by kernel_rfl
 i146 := by kernel_rfl
 m1 := by kernel_rfl
 s1_3 := fun w h => Go.Proofs.cell_of_shapedOpen_int (zero := #[.int .i64 0]) (t := 3) h (of_decide_eq_true (by kernel_rfl)) (by kernel_rfl) rfl (by kernel_rfl) (by kernel_rfl) Tryz.underlying3
 m3 := by kernel_rfl
 m4 := by kernel_rfl }
open Go.RowKit Go.Lib in
def Tryz.laysM157_ren : Go.Shelf.Ren := ⟨fun | 157 => 99 | 229 => 139 | 199 => 140 | 261 => 172 | 311 => 199 | 312 => 200 | n => n, fun | 9 => 9 | 31 => 34 | 3 => 3 | 5 => 5 | 4 => 4 | 119 => 161 | 0 => 0 | 40 => 163 | 152 => 197 | 21 => 21 | 154 => 199 | 51 => 200 | 141 => 202 | 196 => 217 | 193 => 214 | 198 => 220 | 49 => 218 | 194 => 215 | 201 => 223 | 226 => 246 | 46 => 179 | 227 => 247 | n => n, fun | 0 => 1 | 6 => 2 | n => n⟩
theorem Tryz.laysM157 : Go.Proofs.LaysM.n157 Tryz.prog Tryz.laysM157_ren := {
 mixed := by kernel_rfl
 f157 := Tryz.func99.trans (congrArg some (by kernel_rfl))
 f199 := Tryz.func140.trans (congrArg some (by kernel_rfl))
 f229 := Tryz.func139.trans (congrArg some (by kernel_rfl))
 f261 := Tryz.func172.trans (congrArg some (by kernel_rfl))
 f311 := Tryz.func199.trans (congrArg some (by kernel_rfl))
 f312 := Tryz.func200.trans (congrArg some (by kernel_rfl))
 t0 := Tryz.underlying0
 a0 := Tryz.isAgg0
 z0 := Tryz.sizeOf0
 v0 := Tryz.zeroValue0
 t3 := Tryz.underlying3
 a3 := Tryz.isAgg3
 z3 := Tryz.sizeOf3
 v3 := Tryz.zeroValue3
 t4 := Tryz.underlying4
 a4 := Tryz.isAgg4
 z4 := Tryz.sizeOf4
 v4 := Tryz.zeroValue4
 t5 := Tryz.underlying5
 a5 := Tryz.isAgg5
 z5 := Tryz.sizeOf5
 v5 := Tryz.zeroValue5
 t9 := Tryz.underlying9
 a9 := Tryz.isAgg9
 z9 := Tryz.sizeOf9
 v9 := Tryz.zeroValue9
 t21 := Tryz.underlying21
 a21 := Tryz.isAgg21
 z21 := Tryz.sizeOf21
 v21 := Tryz.zeroValue21
 t31 := Tryz.underlying34
 a31 := Tryz.isAgg34
 z31 := Tryz.sizeOf34
 v31 := Tryz.zeroValue34
 t40 := Tryz.underlying163
 a40 := Tryz.isAgg163
 z40 := Tryz.sizeOf163
 v40 := Tryz.zeroValue163
 t46 := Tryz.underlying179
 a46 := Tryz.isAgg179
 z46 := Tryz.sizeOf179
 v46 := Tryz.zeroValue179
 t49 := Tryz.underlying218
 a49 := Tryz.isAgg218
 z49 := Tryz.sizeOf218
 v49 := Tryz.zeroValue218
 t51 := Tryz.underlying200
 a51 := Tryz.isAgg200
 z51 := Tryz.sizeOf200
 v51 := Tryz.zeroValue200
 t119 := Tryz.underlying161
 a119 := Tryz.isAgg161
 z119 := Tryz.sizeOf161
 t141 := Tryz.underlying202
 a141 := Tryz.isAgg202
 z141 := Tryz.sizeOf202
 v141 := Tryz.zeroValue202
 t152 := Tryz.underlying197
 a152 := Tryz.isAgg197
 z152 := Tryz.sizeOf197
 v152 := Tryz.zeroValue197
 t154 := Tryz.underlying199
 a154 := Tryz.isAgg199
 z154 := Tryz.sizeOf199
 v154 := Tryz.zeroValue199
 t193 := Tryz.underlying214
 a193 := Tryz.isAgg214
 z193 := Tryz.sizeOf214
 v193 := Tryz.zeroValue214
 t194 := Tryz.underlying215
 a194 := Tryz.isAgg215
 z194 := Tryz.sizeOf215
 v194 := Tryz.zeroValue215
 t196 := Tryz.underlying217
 a196 := Tryz.isAgg217
 z196 := Tryz.sizeOf217
 v196 := Tryz.zeroValue217
 t198 := Tryz.underlying220
 a198 := Tryz.isAgg220
 z198 := Tryz.sizeOf220
 v198 := Tryz.zeroValue220
 t201 := Tryz.underlying223
 a201 := Tryz.isAgg223
 z201 := Tryz.sizeOf223
 v201 := Tryz.zeroValue223
 t226 := Tryz.underlying246
 a226 := Tryz.isAgg246
 z226 := Tryz.sizeOf246
 v226 := Tryz.zeroValue246
 t227 := Tryz.underlying247
 a227 := Tryz.isAgg247
 z227 := Tryz.sizeOf247
 v227 := Tryz.zeroValue247
 g0 := by kernel_rfl
 g6 := by kernel_rfl
 i0 := by kernel_rfl
 i3 := by kernel_rfl
 i4 := by kernel_rfl
 i5 := by kernel_rfl
 i9 := by kernel_rfl
 i21 := by kernel_rfl
 i31 := by kernel_rfl
 i40 := by kernel_rfl
 i46 := by kernel_rfl
 i49 := by kernel_rfl
 i51 := by kernel_rfl
 i141 := by kernel_rfl
 i152 := by kernel_rfl
 i154 := by kernel_rfl
 i193 := by kernel_rfl
 i194 := by kernel_rfl
 i196 := by kernel_rfl
 i198 := by kernel_rfl
 i201 := by kernel_rfl
 i226 := by kernel_rfl
 i227 := by kernel_rfl
 m0 := by kernel_rfl
 m6 := by kernel_rfl }
open Go.RowKit Go.Lib in
/-- strings.Fields on ASCII bytes. (The table: 'Lib.TabIs', as strings.TrimSpace's contract asks it.) (LAID: no walk: one application.) -/
theorem Tryz.strings_Fields_laid (s : ByteArray) (w : World) (hs : s.size < 4294967281) (hascii : ∀ (j : Nat) b, s.data.toList[j]? = some b → b.toNat < 128) (htab : Lib.TabIs Tryz.prog w "strings.asciiSpace" .u8 Lib.asciiSpaceTab) :
  Calls Tryz.prog 99 #[.string s] w fun e w' =>
   e = .returned (.slice (some ⟨w.heap.size, 0, none⟩) (Lib.fields s.data.toList).length (Lib.fields s.data.toList).length) ∧ w' = w.alloc (.cells ((Lib.fields s.data.toList).map fun l => Value.string ⟨l.toArray⟩).toArray 9) := Any.strings_Fields_laid Tryz.laysM157 s w hs hascii htab
def Tryz.lays109_ren : Go.Shelf.Ren := ⟨fun | 109 => 101 | n => n, fun | 31 => 34 | 9 => 9 | 3 => 3 | 0 => 0 | 4 => 4 | n => n, fun | n => n⟩
theorem Tryz.lays109 : Go.Proofs.Lays.n109 Tryz.prog Tryz.lays109_ren := {
 mixed := by kernel_rfl
 f109 := Tryz.func101.trans (congrArg some (by kernel_rfl))
 t0 := Tryz.underlying0
 a0 := Tryz.isAgg0
 z0 := Tryz.sizeOf0
 v0 := Tryz.zeroValue0
 t3 := Tryz.underlying3
 a3 := Tryz.isAgg3
 z3 := Tryz.sizeOf3
 v3 := Tryz.zeroValue3
 t4 := Tryz.underlying4
 a4 := Tryz.isAgg4
 z4 := Tryz.sizeOf4
 v4 := Tryz.zeroValue4
 t9 := Tryz.underlying9
 a9 := Tryz.isAgg9
 z9 := Tryz.sizeOf9
 v9 := Tryz.zeroValue9
 t31 := Tryz.underlying34
 a31 := Tryz.isAgg34
 z31 := Tryz.sizeOf34
 v31 := Tryz.zeroValue34 }
open Go.Lib in
/-- slices.Index at []string: "Index returns the index of the first occurrence of v in s, or -1 if not present.": IT RETURNS 'Lib.idxOfS (the elements) v'; the world is as it was. 'zs': what the cells behind the slice's address hold (its spare capacity too, if you have it); 'zs.take n': its elements. (LAID: no walk: one application.) -/
theorem Tryz.slices_Index_string (b off n c : Nat) (zs : List ByteArray) (x : ByteArray) (w : World) (hz : n ≤ zs.length) (hbig : n ≤ 9223372036854775807) (hc : ∀ j, j < zs.length → w.cell? ⟨b, off + j, none⟩ = some (.string (zs.getD j ByteArray.empty))) :
  Calls Tryz.prog 101 #[.slice (some ⟨b, off, none⟩) n c, .string x] w fun e w' => e = .returned (.int .i64 (Lib.idxOfS (zs.take n) x)) ∧ w' = w := Any.slices_Index_string Tryz.lays109 b off n c zs x w hz hbig hc
open Go.Lib in
/-- The same at a slice of length 0, a nil one too: no cell is known, none is asked for. (LAID: no walk: one application.) -/
theorem Tryz.slices_Index_string_empty (a : Option Addr) (c : Nat) (x : ByteArray) (w : World) :
  Calls Tryz.prog 101 #[.slice a 0 c, .string x] w fun e w' => e = .returned (.int .i64 (Lib.idxOfS [] x)) ∧ w' = w := Any.slices_Index_string_empty Tryz.lays109 a c x w
end Go.Proofs
end
section
namespace Go.Proofs.YtoeblmcibheldaaGreatDoor.V
open Go Go.RowKit
def T : List (Nat × TI) := [
 (2, ⟨(.int .i64), false, 8, 0, [], false⟩),
 (3, ⟨(.int .i64), false, 8, 0, [], false⟩),
 (4, ⟨.bool, false, 1, 0, [], false⟩),
 (5, ⟨(.int .u8), false, 1, 0, [], false⟩),
 (6, ⟨(.int .u8), false, 1, 0, [], false⟩),
 (7, ⟨(.pr (.int .i64) (.pr (.int .i64) (.pr .bool (.int .u8)))), true, 24, 4, [(false, (.int .i64)), (false, (.int .i64)), (false, .bool), (false, (.int .u8))], true⟩),
 (8, ⟨(.pr (.int .i64) (.pr (.int .i64) (.pr .bool (.int .u8)))), true, 24, 4, [(false, (.int .i64)), (false, (.int .i64)), (false, .bool), (false, (.int .u8))], true⟩),
 (9, ⟨.str, false, 16, 0, [], false⟩),
 (10, ⟨.str, false, 16, 0, [], false⟩),
 (11, ⟨.str, false, 16, 0, [], false⟩),
 (12, ⟨(.int .u64), false, 8, 0, [], false⟩),
 (21, ⟨(.int .i32), false, 4, 0, [], false⟩),
 (22, ⟨(.sl 5 (.int .u8)), false, 24, 0, [], false⟩),
 (24, ⟨(.sl 68 (.pr (.int .i64) (.pr (.int .i64) (.int .i64)))), false, 24, 0, [], false⟩),
 (25, ⟨(.sl 3 (.int .i64)), false, 24, 0, [], false⟩),
 (26, ⟨(.sl 110 (.pr (.int .i64) (.int .i64))), false, 24, 0, [], false⟩),
 (27, ⟨(.sl 25 (.sl 3 (.int .i64))), false, 24, 0, [], false⟩),
 (28, ⟨(.sl 4 .bool), false, 24, 0, [], false⟩),
 (29, ⟨(.sl 4 .bool), true, 24, 1, [(false, (.sl 4 .bool))], false⟩),
 (30, ⟨(.sl 4 .bool), true, 24, 1, [(false, (.sl 4 .bool))], false⟩),
 (31, ⟨(.pr (.sl 68 (.pr (.int .i64) (.pr (.int .i64) (.int .i64)))) (.pr (.sl 3 (.int .i64)) (.pr (.sl 110 (.pr (.int .i64) (.int .i64))) (.pr (.sl 25 (.sl 3 (.int .i64))) (.sl 4 .bool))))), true, 120, 5, [(false, (.sl 68 (.pr (.int .i64) (.pr (.int .i64) (.int .i64))))), (false, (.sl 3 (.int .i64))), (false, (.sl 110 (.pr (.int .i64) (.int .i64)))), (false, (.sl 25 (.sl 3 (.int .i64)))), (true, (.sl 4 .bool))], false⟩),
 (32, ⟨(.pr (.sl 68 (.pr (.int .i64) (.pr (.int .i64) (.int .i64)))) (.pr (.sl 3 (.int .i64)) (.pr (.sl 110 (.pr (.int .i64) (.int .i64))) (.pr (.sl 25 (.sl 3 (.int .i64))) (.sl 4 .bool))))), true, 120, 5, [(false, (.sl 68 (.pr (.int .i64) (.pr (.int .i64) (.int .i64))))), (false, (.sl 3 (.int .i64))), (false, (.sl 110 (.pr (.int .i64) (.int .i64)))), (false, (.sl 25 (.sl 3 (.int .i64)))), (true, (.sl 4 .bool))], false⟩),
 (34, ⟨(.sl 9 .str), false, 24, 0, [], false⟩),
 (39, ⟨(.sl 117 (.pr (.int .i64) (.pr (.int .i64) (.int .i64)))), false, 24, 0, [], false⟩),
 (40, ⟨(.sl 119 (.pr (.int .i64) (.int .i64))), false, 24, 0, [], false⟩),
 (41, ⟨(.sl 4 .bool), true, 24, 1, [(false, (.sl 4 .bool))], false⟩),
 (42, ⟨(.pr (.sl 117 (.pr (.int .i64) (.pr (.int .i64) (.int .i64)))) (.pr (.sl 3 (.int .i64)) (.pr (.sl 119 (.pr (.int .i64) (.int .i64))) (.pr (.sl 25 (.sl 3 (.int .i64))) (.sl 4 .bool))))), true, 120, 5, [(false, (.sl 117 (.pr (.int .i64) (.pr (.int .i64) (.int .i64))))), (false, (.sl 3 (.int .i64))), (false, (.sl 119 (.pr (.int .i64) (.int .i64)))), (false, (.sl 25 (.sl 3 (.int .i64)))), (true, (.sl 4 .bool))], false⟩),
 (43, ⟨(.pr (.sl 117 (.pr (.int .i64) (.pr (.int .i64) (.int .i64)))) (.pr (.sl 3 (.int .i64)) (.pr (.sl 119 (.pr (.int .i64) (.int .i64))) (.pr (.sl 25 (.sl 3 (.int .i64))) (.sl 4 .bool))))), true, 120, 5, [(false, (.sl 117 (.pr (.int .i64) (.pr (.int .i64) (.int .i64))))), (false, (.sl 3 (.int .i64))), (false, (.sl 119 (.pr (.int .i64) (.int .i64)))), (false, (.sl 25 (.sl 3 (.int .i64)))), (true, (.sl 4 .bool))], false⟩),
 (51, ⟨(.sl 91 (.pr (.int .i64) (.pr (.int .i64) (.pr (.int .i64) (.int .i64))))), false, 24, 0, [], false⟩),
 (67, ⟨(.pr (.int .i64) (.pr (.int .i64) (.int .i64))), true, 24, 3, [(false, (.int .i64)), (false, (.int .i64)), (false, (.int .i64))], true⟩),
 (68, ⟨(.pr (.int .i64) (.pr (.int .i64) (.int .i64))), true, 24, 3, [(false, (.int .i64)), (false, (.int .i64)), (false, (.int .i64))], true⟩),
 (90, ⟨(.pr (.int .i64) (.pr (.int .i64) (.pr (.int .i64) (.int .i64)))), true, 32, 4, [(false, (.int .i64)), (false, (.int .i64)), (false, (.int .i64)), (false, (.int .i64))], true⟩),
 (91, ⟨(.pr (.int .i64) (.pr (.int .i64) (.pr (.int .i64) (.int .i64)))), true, 32, 4, [(false, (.int .i64)), (false, (.int .i64)), (false, (.int .i64)), (false, (.int .i64))], true⟩),
 (107, ⟨(.pr (.sl 5 (.int .u8)) (.pr (.int .i64) (.int .i64))), true, 40, 3, [(false, (.sl 5 (.int .u8))), (false, (.int .i64)), (false, (.int .i64))], false⟩),
 (108, ⟨(.pr (.sl 5 (.int .u8)) (.pr (.int .i64) (.int .i64))), true, 40, 3, [(false, (.sl 5 (.int .u8))), (false, (.int .i64)), (false, (.int .i64))], false⟩),
 (109, ⟨(.pr (.int .i64) (.int .i64)), true, 16, 2, [(false, (.int .i64)), (false, (.int .i64))], true⟩),
 (110, ⟨(.pr (.int .i64) (.int .i64)), true, 16, 2, [(false, (.int .i64)), (false, (.int .i64))], true⟩),
 (117, ⟨(.pr (.int .i64) (.pr (.int .i64) (.int .i64))), true, 24, 3, [(false, (.int .i64)), (false, (.int .i64)), (false, (.int .i64))], true⟩),
 (119, ⟨(.pr (.int .i64) (.int .i64)), true, 16, 2, [(false, (.int .i64)), (false, (.int .i64))], true⟩),
 (126, ⟨(.pr .str (.pr .str (.pr .str .str))), true, 64, 0, [], false⟩),
 (130, ⟨(.pr (.int .i64) (.pr (.int .i64) (.int .i64))), true, 24, 0, [], false⟩),
 (144, ⟨(.pr (.sl 3 (.int .i64)) (.pr (.sl 3 (.int .i64)) (.sl 3 (.int .i64)))), true, 72, 3, [(false, (.sl 3 (.int .i64))), (false, (.sl 3 (.int .i64))), (false, (.sl 3 (.int .i64)))], false⟩),
 (145, ⟨(.pr (.sl 3 (.int .i64)) (.pr (.sl 3 (.int .i64)) (.sl 3 (.int .i64)))), true, 72, 3, [(false, (.sl 3 (.int .i64))), (false, (.sl 3 (.int .i64))), (false, (.sl 3 (.int .i64)))], false⟩),
 (179, ⟨(.int .u64), false, 8, 0, [], false⟩),
 (183, ⟨(.pr (.sl 68 (.pr (.int .i64) (.pr (.int .i64) (.int .i64)))) (.pr (.pr (.sl 3 (.int .i64)) (.pr (.sl 3 (.int .i64)) (.sl 3 (.int .i64)))) (.int .i64))), true, 104, 3, [(false, (.sl 68 (.pr (.int .i64) (.pr (.int .i64) (.int .i64))))), (true, (.pr (.sl 3 (.int .i64)) (.pr (.sl 3 (.int .i64)) (.sl 3 (.int .i64))))), (false, (.int .i64))], false⟩),
 (184, ⟨(.pr (.sl 68 (.pr (.int .i64) (.pr (.int .i64) (.int .i64)))) (.pr (.pr (.sl 3 (.int .i64)) (.pr (.sl 3 (.int .i64)) (.sl 3 (.int .i64)))) (.int .i64))), true, 104, 3, [(false, (.sl 68 (.pr (.int .i64) (.pr (.int .i64) (.int .i64))))), (true, (.pr (.sl 3 (.int .i64)) (.pr (.sl 3 (.int .i64)) (.sl 3 (.int .i64))))), (false, (.int .i64))], false⟩),
 (187, ⟨(.int .u64), false, 8, 0, [], false⟩),
 (197, ⟨(.sl 199 (.pr (.int .i64) (.int .i64))), false, 24, 0, [], false⟩),
 (198, ⟨(.pr (.int .i64) (.int .i64)), true, 16, 2, [(false, (.int .i64)), (false, (.int .i64))], true⟩),
 (199, ⟨(.pr (.int .i64) (.int .i64)), true, 16, 2, [(false, (.int .i64)), (false, (.int .i64))], true⟩),
 (200, ⟨(.int .u32), false, 4, 0, [], false⟩),
 (214, ⟨(.sl 220 (.pr (.int .u16) (.pr (.int .u16) (.int .u16)))), false, 24, 0, [], false⟩),
 (215, ⟨(.sl 223 (.pr (.int .u32) (.pr (.int .u32) (.int .u32)))), false, 24, 0, [], false⟩),
 (216, ⟨(.pr (.sl 220 (.pr (.int .u16) (.pr (.int .u16) (.int .u16)))) (.pr (.sl 223 (.pr (.int .u32) (.pr (.int .u32) (.int .u32)))) (.int .i64))), true, 56, 3, [(false, (.sl 220 (.pr (.int .u16) (.pr (.int .u16) (.int .u16))))), (false, (.sl 223 (.pr (.int .u32) (.pr (.int .u32) (.int .u32))))), (false, (.int .i64))], false⟩),
 (217, ⟨(.pr (.sl 220 (.pr (.int .u16) (.pr (.int .u16) (.int .u16)))) (.pr (.sl 223 (.pr (.int .u32) (.pr (.int .u32) (.int .u32)))) (.int .i64))), true, 56, 3, [(false, (.sl 220 (.pr (.int .u16) (.pr (.int .u16) (.int .u16))))), (false, (.sl 223 (.pr (.int .u32) (.pr (.int .u32) (.int .u32))))), (false, (.int .i64))], false⟩),
 (218, ⟨(.int .u16), false, 2, 0, [], false⟩),
 (219, ⟨(.pr (.int .u16) (.pr (.int .u16) (.int .u16))), true, 6, 3, [(false, (.int .u16)), (false, (.int .u16)), (false, (.int .u16))], true⟩),
 (220, ⟨(.pr (.int .u16) (.pr (.int .u16) (.int .u16))), true, 6, 3, [(false, (.int .u16)), (false, (.int .u16)), (false, (.int .u16))], true⟩),
 (222, ⟨(.pr (.int .u32) (.pr (.int .u32) (.int .u32))), true, 12, 3, [(false, (.int .u32)), (false, (.int .u32)), (false, (.int .u32))], true⟩),
 (223, ⟨(.pr (.int .u32) (.pr (.int .u32) (.int .u32))), true, 12, 3, [(false, (.int .u32)), (false, (.int .u32)), (false, (.int .u32))], true⟩),
 (225, ⟨(.int .i64), false, 8, 0, [], false⟩),
 (242, ⟨(.pr (.int .u8) (.int .u8)), true, 2, 2, [(false, (.int .u8)), (false, (.int .u8))], true⟩),
 (243, ⟨(.pr (.int .u8) (.int .u8)), true, 2, 2, [(false, (.int .u8)), (false, (.int .u8))], true⟩),
 (257, ⟨(.int .i64), false, 8, 0, [], false⟩),
 (268, ⟨.str, true, 16, 1, [(false, .str)], true⟩),
 (269, ⟨.str, true, 16, 1, [(false, .str)], true⟩),
 (270, ⟨(.int .u64), false, 8, 0, [], false⟩),
 (284, ⟨(.int .u8), false, 1, 0, [], false⟩),
 (285, ⟨(.int .u8), false, 1, 0, [], false⟩),
 (287, ⟨(.int .i32), false, 4, 0, [], false⟩),
 (288, ⟨(.int .i32), false, 4, 0, [], false⟩)]
theorem tg2 : tget T 2 = some ⟨(.int .i64), false, 8, 0, [], false⟩ := by kernel_rfl
theorem tg3 : tget T 3 = some ⟨(.int .i64), false, 8, 0, [], false⟩ := by kernel_rfl
theorem tg4 : tget T 4 = some ⟨.bool, false, 1, 0, [], false⟩ := by kernel_rfl
theorem tg5 : tget T 5 = some ⟨(.int .u8), false, 1, 0, [], false⟩ := by kernel_rfl
theorem tg6 : tget T 6 = some ⟨(.int .u8), false, 1, 0, [], false⟩ := by kernel_rfl
theorem tg7 : tget T 7 = some ⟨(.pr (.int .i64) (.pr (.int .i64) (.pr .bool (.int .u8)))), true, 24, 4, [(false, (.int .i64)), (false, (.int .i64)), (false, .bool), (false, (.int .u8))], true⟩ := by kernel_rfl
theorem tg8 : tget T 8 = some ⟨(.pr (.int .i64) (.pr (.int .i64) (.pr .bool (.int .u8)))), true, 24, 4, [(false, (.int .i64)), (false, (.int .i64)), (false, .bool), (false, (.int .u8))], true⟩ := by kernel_rfl
theorem tg9 : tget T 9 = some ⟨.str, false, 16, 0, [], false⟩ := by kernel_rfl
theorem tg10 : tget T 10 = some ⟨.str, false, 16, 0, [], false⟩ := by kernel_rfl
theorem tg11 : tget T 11 = some ⟨.str, false, 16, 0, [], false⟩ := by kernel_rfl
theorem tg12 : tget T 12 = some ⟨(.int .u64), false, 8, 0, [], false⟩ := by kernel_rfl
theorem tg21 : tget T 21 = some ⟨(.int .i32), false, 4, 0, [], false⟩ := by kernel_rfl
theorem tg22 : tget T 22 = some ⟨(.sl 5 (.int .u8)), false, 24, 0, [], false⟩ := by kernel_rfl
theorem tg24 : tget T 24 = some ⟨(.sl 68 (.pr (.int .i64) (.pr (.int .i64) (.int .i64)))), false, 24, 0, [], false⟩ := by kernel_rfl
theorem tg25 : tget T 25 = some ⟨(.sl 3 (.int .i64)), false, 24, 0, [], false⟩ := by kernel_rfl
theorem tg26 : tget T 26 = some ⟨(.sl 110 (.pr (.int .i64) (.int .i64))), false, 24, 0, [], false⟩ := by kernel_rfl
theorem tg27 : tget T 27 = some ⟨(.sl 25 (.sl 3 (.int .i64))), false, 24, 0, [], false⟩ := by kernel_rfl
theorem tg28 : tget T 28 = some ⟨(.sl 4 .bool), false, 24, 0, [], false⟩ := by kernel_rfl
theorem tg29 : tget T 29 = some ⟨(.sl 4 .bool), true, 24, 1, [(false, (.sl 4 .bool))], false⟩ := by kernel_rfl
theorem tg30 : tget T 30 = some ⟨(.sl 4 .bool), true, 24, 1, [(false, (.sl 4 .bool))], false⟩ := by kernel_rfl
theorem tg31 : tget T 31 = some ⟨(.pr (.sl 68 (.pr (.int .i64) (.pr (.int .i64) (.int .i64)))) (.pr (.sl 3 (.int .i64)) (.pr (.sl 110 (.pr (.int .i64) (.int .i64))) (.pr (.sl 25 (.sl 3 (.int .i64))) (.sl 4 .bool))))), true, 120, 5, [(false, (.sl 68 (.pr (.int .i64) (.pr (.int .i64) (.int .i64))))), (false, (.sl 3 (.int .i64))), (false, (.sl 110 (.pr (.int .i64) (.int .i64)))), (false, (.sl 25 (.sl 3 (.int .i64)))), (true, (.sl 4 .bool))], false⟩ := by kernel_rfl
theorem tg32 : tget T 32 = some ⟨(.pr (.sl 68 (.pr (.int .i64) (.pr (.int .i64) (.int .i64)))) (.pr (.sl 3 (.int .i64)) (.pr (.sl 110 (.pr (.int .i64) (.int .i64))) (.pr (.sl 25 (.sl 3 (.int .i64))) (.sl 4 .bool))))), true, 120, 5, [(false, (.sl 68 (.pr (.int .i64) (.pr (.int .i64) (.int .i64))))), (false, (.sl 3 (.int .i64))), (false, (.sl 110 (.pr (.int .i64) (.int .i64)))), (false, (.sl 25 (.sl 3 (.int .i64)))), (true, (.sl 4 .bool))], false⟩ := by kernel_rfl
theorem tg34 : tget T 34 = some ⟨(.sl 9 .str), false, 24, 0, [], false⟩ := by kernel_rfl
theorem tg39 : tget T 39 = some ⟨(.sl 117 (.pr (.int .i64) (.pr (.int .i64) (.int .i64)))), false, 24, 0, [], false⟩ := by kernel_rfl
theorem tg40 : tget T 40 = some ⟨(.sl 119 (.pr (.int .i64) (.int .i64))), false, 24, 0, [], false⟩ := by kernel_rfl
theorem tg41 : tget T 41 = some ⟨(.sl 4 .bool), true, 24, 1, [(false, (.sl 4 .bool))], false⟩ := by kernel_rfl
theorem tg42 : tget T 42 = some ⟨(.pr (.sl 117 (.pr (.int .i64) (.pr (.int .i64) (.int .i64)))) (.pr (.sl 3 (.int .i64)) (.pr (.sl 119 (.pr (.int .i64) (.int .i64))) (.pr (.sl 25 (.sl 3 (.int .i64))) (.sl 4 .bool))))), true, 120, 5, [(false, (.sl 117 (.pr (.int .i64) (.pr (.int .i64) (.int .i64))))), (false, (.sl 3 (.int .i64))), (false, (.sl 119 (.pr (.int .i64) (.int .i64)))), (false, (.sl 25 (.sl 3 (.int .i64)))), (true, (.sl 4 .bool))], false⟩ := by kernel_rfl
theorem tg43 : tget T 43 = some ⟨(.pr (.sl 117 (.pr (.int .i64) (.pr (.int .i64) (.int .i64)))) (.pr (.sl 3 (.int .i64)) (.pr (.sl 119 (.pr (.int .i64) (.int .i64))) (.pr (.sl 25 (.sl 3 (.int .i64))) (.sl 4 .bool))))), true, 120, 5, [(false, (.sl 117 (.pr (.int .i64) (.pr (.int .i64) (.int .i64))))), (false, (.sl 3 (.int .i64))), (false, (.sl 119 (.pr (.int .i64) (.int .i64)))), (false, (.sl 25 (.sl 3 (.int .i64)))), (true, (.sl 4 .bool))], false⟩ := by kernel_rfl
theorem tg51 : tget T 51 = some ⟨(.sl 91 (.pr (.int .i64) (.pr (.int .i64) (.pr (.int .i64) (.int .i64))))), false, 24, 0, [], false⟩ := by kernel_rfl
theorem tg67 : tget T 67 = some ⟨(.pr (.int .i64) (.pr (.int .i64) (.int .i64))), true, 24, 3, [(false, (.int .i64)), (false, (.int .i64)), (false, (.int .i64))], true⟩ := by kernel_rfl
theorem tg68 : tget T 68 = some ⟨(.pr (.int .i64) (.pr (.int .i64) (.int .i64))), true, 24, 3, [(false, (.int .i64)), (false, (.int .i64)), (false, (.int .i64))], true⟩ := by kernel_rfl
theorem tg90 : tget T 90 = some ⟨(.pr (.int .i64) (.pr (.int .i64) (.pr (.int .i64) (.int .i64)))), true, 32, 4, [(false, (.int .i64)), (false, (.int .i64)), (false, (.int .i64)), (false, (.int .i64))], true⟩ := by kernel_rfl
theorem tg91 : tget T 91 = some ⟨(.pr (.int .i64) (.pr (.int .i64) (.pr (.int .i64) (.int .i64)))), true, 32, 4, [(false, (.int .i64)), (false, (.int .i64)), (false, (.int .i64)), (false, (.int .i64))], true⟩ := by kernel_rfl
theorem tg107 : tget T 107 = some ⟨(.pr (.sl 5 (.int .u8)) (.pr (.int .i64) (.int .i64))), true, 40, 3, [(false, (.sl 5 (.int .u8))), (false, (.int .i64)), (false, (.int .i64))], false⟩ := by kernel_rfl
theorem tg108 : tget T 108 = some ⟨(.pr (.sl 5 (.int .u8)) (.pr (.int .i64) (.int .i64))), true, 40, 3, [(false, (.sl 5 (.int .u8))), (false, (.int .i64)), (false, (.int .i64))], false⟩ := by kernel_rfl
theorem tg109 : tget T 109 = some ⟨(.pr (.int .i64) (.int .i64)), true, 16, 2, [(false, (.int .i64)), (false, (.int .i64))], true⟩ := by kernel_rfl
theorem tg110 : tget T 110 = some ⟨(.pr (.int .i64) (.int .i64)), true, 16, 2, [(false, (.int .i64)), (false, (.int .i64))], true⟩ := by kernel_rfl
theorem tg117 : tget T 117 = some ⟨(.pr (.int .i64) (.pr (.int .i64) (.int .i64))), true, 24, 3, [(false, (.int .i64)), (false, (.int .i64)), (false, (.int .i64))], true⟩ := by kernel_rfl
theorem tg119 : tget T 119 = some ⟨(.pr (.int .i64) (.int .i64)), true, 16, 2, [(false, (.int .i64)), (false, (.int .i64))], true⟩ := by kernel_rfl
theorem tg126 : tget T 126 = some ⟨(.pr .str (.pr .str (.pr .str .str))), true, 64, 0, [], false⟩ := by kernel_rfl
theorem tg130 : tget T 130 = some ⟨(.pr (.int .i64) (.pr (.int .i64) (.int .i64))), true, 24, 0, [], false⟩ := by kernel_rfl
theorem tg144 : tget T 144 = some ⟨(.pr (.sl 3 (.int .i64)) (.pr (.sl 3 (.int .i64)) (.sl 3 (.int .i64)))), true, 72, 3, [(false, (.sl 3 (.int .i64))), (false, (.sl 3 (.int .i64))), (false, (.sl 3 (.int .i64)))], false⟩ := by kernel_rfl
theorem tg145 : tget T 145 = some ⟨(.pr (.sl 3 (.int .i64)) (.pr (.sl 3 (.int .i64)) (.sl 3 (.int .i64)))), true, 72, 3, [(false, (.sl 3 (.int .i64))), (false, (.sl 3 (.int .i64))), (false, (.sl 3 (.int .i64)))], false⟩ := by kernel_rfl
theorem tg179 : tget T 179 = some ⟨(.int .u64), false, 8, 0, [], false⟩ := by kernel_rfl
theorem tg183 : tget T 183 = some ⟨(.pr (.sl 68 (.pr (.int .i64) (.pr (.int .i64) (.int .i64)))) (.pr (.pr (.sl 3 (.int .i64)) (.pr (.sl 3 (.int .i64)) (.sl 3 (.int .i64)))) (.int .i64))), true, 104, 3, [(false, (.sl 68 (.pr (.int .i64) (.pr (.int .i64) (.int .i64))))), (true, (.pr (.sl 3 (.int .i64)) (.pr (.sl 3 (.int .i64)) (.sl 3 (.int .i64))))), (false, (.int .i64))], false⟩ := by kernel_rfl
theorem tg184 : tget T 184 = some ⟨(.pr (.sl 68 (.pr (.int .i64) (.pr (.int .i64) (.int .i64)))) (.pr (.pr (.sl 3 (.int .i64)) (.pr (.sl 3 (.int .i64)) (.sl 3 (.int .i64)))) (.int .i64))), true, 104, 3, [(false, (.sl 68 (.pr (.int .i64) (.pr (.int .i64) (.int .i64))))), (true, (.pr (.sl 3 (.int .i64)) (.pr (.sl 3 (.int .i64)) (.sl 3 (.int .i64))))), (false, (.int .i64))], false⟩ := by kernel_rfl
theorem tg187 : tget T 187 = some ⟨(.int .u64), false, 8, 0, [], false⟩ := by kernel_rfl
theorem tg197 : tget T 197 = some ⟨(.sl 199 (.pr (.int .i64) (.int .i64))), false, 24, 0, [], false⟩ := by kernel_rfl
theorem tg198 : tget T 198 = some ⟨(.pr (.int .i64) (.int .i64)), true, 16, 2, [(false, (.int .i64)), (false, (.int .i64))], true⟩ := by kernel_rfl
theorem tg199 : tget T 199 = some ⟨(.pr (.int .i64) (.int .i64)), true, 16, 2, [(false, (.int .i64)), (false, (.int .i64))], true⟩ := by kernel_rfl
theorem tg200 : tget T 200 = some ⟨(.int .u32), false, 4, 0, [], false⟩ := by kernel_rfl
theorem tg214 : tget T 214 = some ⟨(.sl 220 (.pr (.int .u16) (.pr (.int .u16) (.int .u16)))), false, 24, 0, [], false⟩ := by kernel_rfl
theorem tg215 : tget T 215 = some ⟨(.sl 223 (.pr (.int .u32) (.pr (.int .u32) (.int .u32)))), false, 24, 0, [], false⟩ := by kernel_rfl
theorem tg216 : tget T 216 = some ⟨(.pr (.sl 220 (.pr (.int .u16) (.pr (.int .u16) (.int .u16)))) (.pr (.sl 223 (.pr (.int .u32) (.pr (.int .u32) (.int .u32)))) (.int .i64))), true, 56, 3, [(false, (.sl 220 (.pr (.int .u16) (.pr (.int .u16) (.int .u16))))), (false, (.sl 223 (.pr (.int .u32) (.pr (.int .u32) (.int .u32))))), (false, (.int .i64))], false⟩ := by kernel_rfl
theorem tg217 : tget T 217 = some ⟨(.pr (.sl 220 (.pr (.int .u16) (.pr (.int .u16) (.int .u16)))) (.pr (.sl 223 (.pr (.int .u32) (.pr (.int .u32) (.int .u32)))) (.int .i64))), true, 56, 3, [(false, (.sl 220 (.pr (.int .u16) (.pr (.int .u16) (.int .u16))))), (false, (.sl 223 (.pr (.int .u32) (.pr (.int .u32) (.int .u32))))), (false, (.int .i64))], false⟩ := by kernel_rfl
theorem tg218 : tget T 218 = some ⟨(.int .u16), false, 2, 0, [], false⟩ := by kernel_rfl
theorem tg219 : tget T 219 = some ⟨(.pr (.int .u16) (.pr (.int .u16) (.int .u16))), true, 6, 3, [(false, (.int .u16)), (false, (.int .u16)), (false, (.int .u16))], true⟩ := by kernel_rfl
theorem tg220 : tget T 220 = some ⟨(.pr (.int .u16) (.pr (.int .u16) (.int .u16))), true, 6, 3, [(false, (.int .u16)), (false, (.int .u16)), (false, (.int .u16))], true⟩ := by kernel_rfl
theorem tg222 : tget T 222 = some ⟨(.pr (.int .u32) (.pr (.int .u32) (.int .u32))), true, 12, 3, [(false, (.int .u32)), (false, (.int .u32)), (false, (.int .u32))], true⟩ := by kernel_rfl
theorem tg223 : tget T 223 = some ⟨(.pr (.int .u32) (.pr (.int .u32) (.int .u32))), true, 12, 3, [(false, (.int .u32)), (false, (.int .u32)), (false, (.int .u32))], true⟩ := by kernel_rfl
theorem tg225 : tget T 225 = some ⟨(.int .i64), false, 8, 0, [], false⟩ := by kernel_rfl
theorem tg242 : tget T 242 = some ⟨(.pr (.int .u8) (.int .u8)), true, 2, 2, [(false, (.int .u8)), (false, (.int .u8))], true⟩ := by kernel_rfl
theorem tg243 : tget T 243 = some ⟨(.pr (.int .u8) (.int .u8)), true, 2, 2, [(false, (.int .u8)), (false, (.int .u8))], true⟩ := by kernel_rfl
theorem tg257 : tget T 257 = some ⟨(.int .i64), false, 8, 0, [], false⟩ := by kernel_rfl
theorem tg268 : tget T 268 = some ⟨.str, true, 16, 1, [(false, .str)], true⟩ := by kernel_rfl
theorem tg269 : tget T 269 = some ⟨.str, true, 16, 1, [(false, .str)], true⟩ := by kernel_rfl
theorem tg270 : tget T 270 = some ⟨(.int .u64), false, 8, 0, [], false⟩ := by kernel_rfl
theorem tg284 : tget T 284 = some ⟨(.int .u8), false, 1, 0, [], false⟩ := by kernel_rfl
theorem tg285 : tget T 285 = some ⟨(.int .u8), false, 1, 0, [], false⟩ := by kernel_rfl
theorem tg287 : tget T 287 = some ⟨(.int .i32), false, 4, 0, [], false⟩ := by kernel_rfl
theorem tg288 : tget T 288 = some ⟨(.int .i32), false, 4, 0, [], false⟩ := by kernel_rfl
theorem wq : type_of% (And.intro (And.intro (And.intro (And.intro (And.intro (And.intro (And.intro tg2 tg3) (And.intro tg4 tg5)) (And.intro (And.intro tg6 tg7) (And.intro tg8 tg9))) (And.intro (And.intro (And.intro tg10 tg11) (And.intro tg12 tg21)) (And.intro (And.intro tg22 tg24) (And.intro tg25 (And.intro tg26 tg27))))) (And.intro (And.intro (And.intro (And.intro tg28 tg29) (And.intro tg30 tg31)) (And.intro (And.intro tg32 tg34) (And.intro tg39 (And.intro tg40 tg41)))) (And.intro (And.intro (And.intro tg42 tg43) (And.intro tg51 tg67)) (And.intro (And.intro tg68 tg90) (And.intro tg91 (And.intro tg107 tg108)))))) (And.intro (And.intro (And.intro (And.intro (And.intro tg109 tg110) (And.intro tg117 tg119)) (And.intro (And.intro tg126 tg130) (And.intro tg144 (And.intro tg145 tg179)))) (And.intro (And.intro (And.intro tg183 tg184) (And.intro tg187 tg197)) (And.intro (And.intro tg198 tg199) (And.intro tg200 (And.intro tg214 tg215))))) (And.intro (And.intro (And.intro (And.intro tg216 tg217) (And.intro tg218 tg219)) (And.intro (And.intro tg220 tg222) (And.intro tg223 (And.intro tg225 tg242)))) (And.intro (And.intro (And.intro tg243 tg257) (And.intro tg268 tg269)) (And.intro (And.intro tg270 tg284) (And.intro tg285 (And.intro tg287 tg288))))))) wq0) := (And.intro (And.intro (And.intro (And.intro (And.intro (And.intro (And.intro tg2 tg3) (And.intro tg4 tg5)) (And.intro (And.intro tg6 tg7) (And.intro tg8 tg9))) (And.intro (And.intro (And.intro tg10 tg11) (And.intro tg12 tg21)) (And.intro (And.intro tg22 tg24) (And.intro tg25 (And.intro tg26 tg27))))) (And.intro (And.intro (And.intro (And.intro tg28 tg29) (And.intro tg30 tg31)) (And.intro (And.intro tg32 tg34) (And.intro tg39 (And.intro tg40 tg41)))) (And.intro (And.intro (And.intro tg42 tg43) (And.intro tg51 tg67)) (And.intro (And.intro tg68 tg90) (And.intro tg91 (And.intro tg107 tg108)))))) (And.intro (And.intro (And.intro (And.intro (And.intro tg109 tg110) (And.intro tg117 tg119)) (And.intro (And.intro tg126 tg130) (And.intro tg144 (And.intro tg145 tg179)))) (And.intro (And.intro (And.intro tg183 tg184) (And.intro tg187 tg197)) (And.intro (And.intro tg198 tg199) (And.intro tg200 (And.intro tg214 tg215))))) (And.intro (And.intro (And.intro (And.intro tg216 tg217) (And.intro tg218 tg219)) (And.intro (And.intro tg220 tg222) (And.intro tg223 (And.intro tg225 tg242)))) (And.intro (And.intro (And.intro tg243 tg257) (And.intro tg268 tg269)) (And.intro (And.intro tg270 tg284) (And.intro tg285 (And.intro tg287 tg288))))))) wq0)
theorem hT : TabOk Tryz.prog T := tab_ok (by kernel_rfl)
end Go.Proofs.YtoeblmcibheldaaGreatDoor.V
end
section
namespace Go.Proofs.YtoeblmcibheldaaGreatDoor.V.W
open Go Go.RowKit
theorem hm : Tryz.prog.follows .mixedOrders = true := by kernel_rfl
abbrev D : PV := .dead
abbrev Nd := Int × Int × Int
abbrev sN : Sh := .pr (.int .i64) (.pr (.int .i64) (.int .i64))
abbrev sNS : Sh := .sl 68 sN
abbrev sI : Sh := .sl 3 (.int .i64)
abbrev z : Nd := (0, 0, 0)
def inB (x a b : Int) : Bool := decide (x ≥ a) && decide (x ≤ b)
theorem inB_iff {x a b : Int} : inB x a b = true ↔ a ≤ x ∧ x ≤ b := by simp [inB]
theorem within_vc (x a b : Int) : VC Tryz.prog 98 [.v false (.int .i64) (x), .v false (.int .i64) (a), .v false (.int .i64) (b)] (· = .v false .bool (inB x a b)) := by
 refine VC.of_body hT Tryz.func98 rfl (by kernel_rfl) [(.tmp 6, false, .bool)] (by kernel_rfl) ?_
 show VW _ _ ([.v false (.int .i64) (x), .v false (.int .i64) (a), .v false (.int .i64) (b), D, D, D, D, D, D, D, D, D, D, D, D]) _
 repeat refine VW.seq ?_
 refine VW.regl hT fun K hK => ?_
 simp only [wq, simprocAttr]
 refine hK _ ?_
 clear hK K
 try refine vthen_n ?_
 repeat refine VW.seq ?_
 refine VW.regl hT fun K hK => ?_
 simp only [wq, simprocAttr]
 refine vbr (fun h => ?_) (fun h => ?_) <;> simp only [wq, simprocAttr]
 ·refine hK _ ?_
  clear hK K
  try refine vthen_n ?_
  refine VW.ret ⟨.inl rfl, _, rfl, ?_⟩
  simp only [inB, h, Bool.true_and]
 ·refine hK _ ?_
  clear hK K
  try refine vthen_n ?_
  refine VW.ret ⟨.inl rfl, _, rfl, ?_⟩
  simp only [inB, h, Bool.not_true, Bool.false_and]
theorem in_vc (x a b : Int) : VC Tryz.prog 112 [.v false (.int .i64) (x), .v false (.int .i64) (a), .v false (.int .i64) (b)] (· = .v false .bool (inB x a b)) := by
 refine VC.of_body hT Tryz.func112 rfl (by kernel_rfl) [(.tmp 6, false, .bool)] (by kernel_rfl) ?_
 show VW _ _ ([.v false (.int .i64) (x), .v false (.int .i64) (a), .v false (.int .i64) (b), D, D, D, D, D, D, D, D, D, D, D, D]) _
 repeat refine VW.seq ?_
 refine VW.regl hT fun K hK => ?_
 simp only [wq, simprocAttr]
 refine hK _ ?_
 clear hK K
 try refine vthen_n ?_
 repeat refine VW.seq ?_
 refine VW.regl hT fun K hK => ?_
 simp only [wq, simprocAttr]
 refine vbr (fun h => ?_) (fun h => ?_) <;> simp only [wq, simprocAttr]
 ·refine hK _ ?_
  clear hK K
  try refine vthen_n ?_
  refine VW.ret ⟨.inl rfl, _, rfl, ?_⟩
  simp only [inB, h, Bool.true_and]
 ·refine hK _ ?_
  clear hK K
  try refine vthen_n ?_
  refine VW.ret ⟨.inl rfl, _, rfl, ?_⟩
  simp only [inB, h, Bool.not_true, Bool.false_and]
theorem isBridge_vc (t : List Nd) (k : Int) (h1 : 0 ≤ k) (h2 : k < t.length) : VC Tryz.prog 155 [.v false sNS t, .v false (.int .i64) (k)] (· = .v false .bool ((t.getD k.toNat z).2.2 == 0)) := by
 refine VC.of_body hT Tryz.func155 rfl (by kernel_rfl) [(.tmp 4, false, .bool)] (by kernel_rfl) ?_
 show VW _ _ ([.v false sNS t, .v false (.int .i64) (k), D, D, D, D, D, D, D, D, D]) _
 repeat refine VW.seq ?_
 refine VW.regl hT fun K hK => ?_
 simp only [wq, simprocAttr]
 refine hK _ ?_
 clear hK K
 try refine vthen_n ?_
 repeat refine VW.seq ?_
 refine VW.regl hT fun K hK => ?_
 simp only [wq, simprocAttr]
 refine ⟨decide_eq_true ⟨h1, h2⟩, ?_⟩
 refine hK _ ?_
 clear hK K
 try refine vthen_n ?_
 exact VW.ret ⟨.inl rfl, _, rfl, rfl⟩
/-- where p holds first -/
def IdxOf (p : Nd → Bool) (xs : List Nd) (m : Int) : Prop := (m = -1 ∧ ∀ k, k < xs.length → p (xs.getD k z) = false) ∨ ∃ i : Nat, i < xs.length ∧ m = i ∧ p (xs.getD i z) = true ∧ ∀ k, k < i → p (xs.getD k z) = false
theorem index_vc (xs : List Nd) (f : FuncId) (caps : List Cap) (p : Nd → Bool) (hcap : caps.any isAdr = false) (hp : ∀ x, VC Tryz.prog f (.v true sN x :: caps.map capPV) (· = .v false .bool (p x))) (hl : xs.length ≤ 2000000) :
  VC Tryz.prog 166 [.v false sNS xs, .fn f caps] (fun r => ∃ m : Int, r = .v false (.int .i64) (m) ∧ IdxOf p xs m) := by
 refine VC.of_body hT Tryz.func166 rfl (by kernel_rfl) [(.tmp 4, false, .int .i64)] (by kernel_rfl) ?_
 show VW _ _ ([.v false sNS xs, .fn f caps, D, D, D, D, D, D, D, D, D, D, D, D, D, D, D, D, D]) _
 repeat refine VW.seq ?_
 refine VW.regl hT fun K hK => ?_
 simp only [wq, simprocAttr]
 refine hK _ ?_
 clear hK K
 try refine vthen_n ?_
 repeat refine VW.seq ?_
 refine VW.regl hT fun K hK => ?_
 simp only [wq, simprocAttr]
 refine hK _ ?_
 clear hK K
 try refine vthen_n ?_
 repeat refine VW.seq ?_
 refine VW.block ?_
 refine VW.loop (α := Nat) [(0, none), (1, none), (7, none), (8, none)] (fun i => [.v false sNS xs, .fn f caps, D, D, D, D, D, .v false (.int .i64) (xs.length), .v false (.int .i64) (i), D, D, D, D, D, D, D, D, D, D]) (fun i => i ≤ xs.length ∧ ∀ k, k < i → p (xs.getD k z) = false) (fun i => xs.length - i) ⟨0, ⟨by omega, fun k hk => by omega⟩, ?_⟩ fun i ⟨hi, hk⟩ => ?_
 ·simp only [capOut_any hcap, wn, wq, simprocAttr]
  try rfl
 repeat refine VW.seq ?_
 refine VW.regl hT fun K hK => ?_
 simp only [wq, simprocAttr]
 refine hK _ ?_
 clear hK K
 try refine vthen_n ?_
 repeat refine VW.seq ?_
 refine VW.cond rfl (fun hc => ?_) (fun hc => ?_)
 ·have hlt : i < xs.length := by simpa using hc
  refine VW.skip (vthen_n ?_)
  repeat refine VW.seq ?_
  refine VW.block ?_
  repeat refine VW.seq ?_
  refine VW.regl hT fun K hK => ?_
  simp only [wq, simprocAttr]
  refine hK _ ?_
  clear hK K
  try refine vthen_n ?_
  repeat refine VW.seq ?_
  refine VW.regl hT fun K hK => ?_
  simp only [wq, simprocAttr]
  simp only [lendCaps_all _ caps hcap, wq, simprocAttr]
  refine ⟨by simp; omega, ?_⟩
  refine vcall_of (hp _) ?_
  rw [hcap]
  simp only [wq, simprocAttr]
  refine hK _ ?_
  clear hK K
  try refine vthen_n ?_
  repeat refine VW.seq ?_
  refine VW.cond rfl (fun hc => ?_) (fun hc => ?_)
  ·repeat refine VW.seq ?_
   refine VW.regl hT fun K hK => ?_
   simp only [wq, simprocAttr]
   refine hK _ ?_
   clear hK K
   try refine vthen_n ?_
   refine VW.ret ⟨.inl rfl, _, rfl, _, rfl, .inr ⟨i, hlt, rfl, hc, hk⟩⟩
  ·refine VW.skip ?_
   show vthen _ _ _ .normal _
   refine vthen_n ?_
   repeat refine VW.seq ?_
   refine VW.regl hT fun K hK => ?_
   simp only [wq, simprocAttr]
   refine hK _ ?_
   clear hK K
   try refine vthen_n ?_
   refine ⟨i + 1, ⟨hlt, fun k h => ?_⟩, ?_, by show xs.length - (i + 1) < xs.length - i; omega⟩
   ·rcases Nat.lt_or_ge k i with h1 | h1
    ·exact hk k h1
    ·obtain rfl : k = i := by omega
     exact hc
   ·simp only [capOut_any hcap, wn, wq, simprocAttr]
    rw [wrap64 (by omega) (by omega)]
    rfl
 ·have hc : xs.length ≤ i := by simpa using hc
  refine VW.exit ?_
  show vthen _ _ _ .normal _
  refine vthen_n ?_
  repeat refine VW.seq ?_
  refine VW.regl hT fun K hK => ?_
  simp only [wq, simprocAttr]
  refine hK _ ?_
  clear hK K
  try refine vthen_n ?_
  refine VW.ret ⟨.inl rfl, _, rfl, _, rfl, .inl ⟨rfl, fun k h => hk k (by omega)⟩⟩
theorem IdxOf.any {p : Nd → Bool} {xs : List Nd} {m : Int} (h : IdxOf p xs m) : decide (m ≥ 0) = xs.any p := by
 rcases h with ⟨rfl, h⟩ | ⟨i, h1, rfl, h2, _⟩
 ·have : xs.any p = false := by
   rw [List.any_eq_false]
   intro x hx
   obtain ⟨k, hk, rfl⟩ := List.mem_iff_getElem.1 hx
   have := h k hk
   rw [List.getD_eq_getElem?_getD, List.getElem?_eq_getElem hk] at this
   simpa using this
  rw [this]; rfl
 ·have : xs.any p = true := by
   rw [List.any_eq_true]
   refine ⟨xs[i], List.getElem_mem h1, ?_⟩
   rw [List.getD_eq_getElem?_getD, List.getElem?_eq_getElem h1] at h2
   exact h2
  rw [this]; simp
theorem contains_vc (xs : List Nd) (f : FuncId) (caps : List Cap) (p : Nd → Bool) (hcap : caps.any isAdr = false) (hp : ∀ x, VC Tryz.prog f (.v true sN x :: caps.map capPV) (· = .v false .bool (p x))) (hl : xs.length ≤ 2000000) :
  VC Tryz.prog 129 [.v false sNS xs, .fn f caps] (· = .v false .bool (xs.any p)) := by
 refine VC.of_body hT Tryz.func129 rfl (by kernel_rfl) [(.tmp 4, false, .bool)] (by kernel_rfl) ?_
 show VW _ _ ([.v false sNS xs, .fn f caps, D, D, D, D, D, D, D]) _
 repeat refine VW.seq ?_
 refine VW.regl hT fun K hK => ?_
 simp only [wq, simprocAttr]
 refine hK _ ?_
 clear hK K
 try refine vthen_n ?_
 repeat refine VW.seq ?_
 refine VW.regl hT fun K hK => ?_
 simp only [wq, simprocAttr]
 simp only [lendCaps_all _ caps hcap, wq, simprocAttr]
 refine vcall_ex (index_vc xs f caps p hcap hp hl) ?_
 rintro pv ⟨m, rfl, hm⟩
 rw [hcap]
 simp only [wq, simprocAttr]
 refine hK _ ?_
 clear hK K
 try refine vthen_n ?_
 refine VW.ret ⟨.inl rfl, _, rfl, ?_⟩
 rw [← hm.any]
/-- two nodes at one place -/
def same (g x : Nd) : Bool := x.1 == g.1 && x.2.1 == g.2.1
theorem treeOk1_vc (x g : Nd) : VC Tryz.prog 130 [.v true sN x, .fadr sN g] (· = .v false .bool (same g x)) := by
 refine VC.of_body hT Tryz.func130 rfl (by kernel_rfl) [(.tmp 3, false, .bool)] (by kernel_rfl) ?_
 show VW _ _ ([.v true sN x, .fadr sN g, D, D, D, D, D, D, D, D, D, D, D, D, D, D]) _
 repeat refine VW.seq ?_
 refine VW.regl hT fun K hK => ?_
 simp only [wq, simprocAttr]
 refine hK _ ?_
 clear hK K
 try refine vthen_n ?_
 repeat refine VW.seq ?_
 refine VW.regl hT fun K hK => ?_
 simp only [wq, simprocAttr]
 refine vbr (fun h => ?_) (fun h => ?_) <;> simp only [wq, simprocAttr]
 ·refine hK _ ?_
  clear hK K
  try refine vthen_n ?_
  refine VW.ret ⟨.inl rfl, _, rfl, ?_⟩
  simp only [same, h, Bool.true_and]
 ·refine hK _ ?_
  clear hK K
  try refine vthen_n ?_
  refine VW.ret ⟨.inl rfl, _, rfl, ?_⟩
  simp only [same, h, Bool.not_true, Bool.false_and]
theorem big_vc (xs : List Int) : VC Tryz.prog 7 [.v false (.sl 5 (.int .u8)) xs] (· = .v false .bool (decide ((xs.length : Int) > 1048576))) := by
 refine VC.of_body hT Tryz.func7 rfl (by kernel_rfl) [(.tmp 2, false, .bool)] (by kernel_rfl) ?_
 show VW _ _ ([.v false (.sl 5 (.int .u8)) xs, D, D, D, D, D]) _
 repeat refine VW.seq ?_
 refine VW.regl hT fun K hK => ?_
 simp only [wq, simprocAttr]
 refine hK _ ?_
 clear hK K
 try refine vthen_n ?_
 repeat refine VW.seq ?_
 refine VW.regl hT fun K hK => ?_
 simp only [wq, simprocAttr]
 refine hK _ ?_
 clear hK K
 try refine vthen_n ?_
 exact VW.ret ⟨.inl rfl, _, rfl, rfl⟩
end Go.Proofs.YtoeblmcibheldaaGreatDoor.V.W
end
section
namespace Go.Proofs
open Go.Shelf
def Tryz.laysM171_ren : Go.Shelf.Ren := ⟨fun | 171 => 32 | 243 => 80 | 246 => 128 | 283 => 162 | 284 => 163 | 285 => 164 | 286 => 165 | 129 => 189 | 317 => 188 | 318 => 190 | 319 => 191 | 320 => 192 | 337 => 219 | 338 => 220 | n => n, fun | 3 => 3 | 9 => 9 | 2 => 2 | 4 => 4 | 171 => 186 | 0 => 0 | 53 => 187 | 37 => 22 | 5 => 5 | 173 => 190 | 212 => 212 | 51 => 200 | 20 => 20 | 213 => 213 | 46 => 179 | 232 => 263 | 233 => 264 | n => n, fun | 17 => 3 | 18 => 9 | 19 => 10 | n => n⟩
theorem Tryz.laysM171 : Go.Proofs.LaysM.n171 Tryz.prog Tryz.laysM171_ren := {
 mixed := by kernel_rfl
 f129 := Tryz.func189.trans (congrArg some (by kernel_rfl))
 f171 := Tryz.func32.trans (congrArg some (by kernel_rfl))
 f243 := Tryz.func80.trans (congrArg some (by kernel_rfl))
 f246 := Tryz.func128.trans (congrArg some (by kernel_rfl))
 f283 := Tryz.func162.trans (congrArg some (by kernel_rfl))
 f284 := Tryz.func163.trans (congrArg some (by kernel_rfl))
 f285 := Tryz.func164.trans (congrArg some (by kernel_rfl))
 f286 := Tryz.func165.trans (congrArg some (by kernel_rfl))
 f317 := Tryz.func188.trans (congrArg some (by kernel_rfl))
 f318 := Tryz.func190.trans (congrArg some (by kernel_rfl))
 f319 := Tryz.func191.trans (congrArg some (by kernel_rfl))
 f320 := Tryz.func192.trans (congrArg some (by kernel_rfl))
 f337 := Tryz.func219.trans (congrArg some (by kernel_rfl))
 f338 := Tryz.func220.trans (congrArg some (by kernel_rfl))
 t0 := Tryz.underlying0
 a0 := Tryz.isAgg0
 z0 := Tryz.sizeOf0
 v0 := Tryz.zeroValue0
 t2 := Tryz.underlying2
 a2 := Tryz.isAgg2
 z2 := Tryz.sizeOf2
 v2 := Tryz.zeroValue2
 t3 := Tryz.underlying3
 a3 := Tryz.isAgg3
 z3 := Tryz.sizeOf3
 v3 := Tryz.zeroValue3
 t4 := Tryz.underlying4
 a4 := Tryz.isAgg4
 z4 := Tryz.sizeOf4
 v4 := Tryz.zeroValue4
 t5 := Tryz.underlying5
 a5 := Tryz.isAgg5
 z5 := Tryz.sizeOf5
 v5 := Tryz.zeroValue5
 t9 := Tryz.underlying9
 a9 := Tryz.isAgg9
 z9 := Tryz.sizeOf9
 v9 := Tryz.zeroValue9
 t20 := Tryz.underlying20
 a20 := Tryz.isAgg20
 z20 := Tryz.sizeOf20
 v20 := Tryz.zeroValue20
 t37 := Tryz.underlying22
 a37 := Tryz.isAgg22
 z37 := Tryz.sizeOf22
 v37 := Tryz.zeroValue22
 t46 := Tryz.underlying179
 a46 := Tryz.isAgg179
 z46 := Tryz.sizeOf179
 v46 := Tryz.zeroValue179
 t51 := Tryz.underlying200
 a51 := Tryz.isAgg200
 z51 := Tryz.sizeOf200
 v51 := Tryz.zeroValue200
 t53 := Tryz.underlying187
 a53 := Tryz.isAgg187
 z53 := Tryz.sizeOf187
 v53 := Tryz.zeroValue187
 t171 := Tryz.underlying186
 a171 := Tryz.isAgg186
 z171 := Tryz.sizeOf186
 v171 := Tryz.zeroValue186
 t173 := Tryz.underlying190
 a173 := Tryz.isAgg190
 z173 := Tryz.sizeOf190
 v173 := Tryz.zeroValue190
 t212 := Tryz.underlying212
 a212 := Tryz.isAgg212
 z212 := Tryz.sizeOf212
 v212 := Tryz.zeroValue212
 t213 := Tryz.underlying213
 a213 := Tryz.isAgg213
 z213 := Tryz.sizeOf213
 t232 := Tryz.underlying263
 a232 := Tryz.isAgg263
 z232 := Tryz.sizeOf263
 v232 := Tryz.zeroValue263
 t233 := Tryz.underlying264
 a233 := Tryz.isAgg264
 z233 := Tryz.sizeOf264
 v233 := Tryz.zeroValue264
 g17 := by kernel_rfl
 g18 := by kernel_rfl
 g19 := by kernel_rfl
 i0 := by kernel_rfl
 i2 := by kernel_rfl
 i3 := by kernel_rfl
 i4 := by kernel_rfl
 i5 := by kernel_rfl
 i9 := by kernel_rfl
 i20 := by kernel_rfl
 i37 := by kernel_rfl
 i46 := by kernel_rfl
 i51 := by kernel_rfl
 i53 := by kernel_rfl
 i171 := by kernel_rfl
 i173 := by kernel_rfl
 i212 := by kernel_rfl
 i232 := by kernel_rfl
 i233 := by kernel_rfl
 m17 := by kernel_rfl
 m18 := by kernel_rfl
 m19 := by kernel_rfl }
open Go.RowKit Go.Sort Go.Lib in
/-- strconv.Itoa: "Itoa is equivalent to FormatInt(int64(i), 10).": i's DECIMAL NUMERAL ('Lib.itoa': a '-' where i is negative, then the digits), FOR EVERY int. The world behind the call: the world before it, new blocks behind the heap (the library's 'var a [24]byte'), draws. (LAID: no walk: one application.) -/
theorem Tryz.strconv_Itoa (n : Int) (h0 : -9223372036854775808 ≤ n) (h1 : n ≤ 9223372036854775807) (w : World) (htab : Lib.TabIs Tryz.prog w "internal/strconv.uint64pow10" .u64 Lib.pow10Tab) :
  Calls Tryz.prog 32 #[.int .i64 n] w fun e w' => e = .returned (.string ⟨(Lib.itoa n).toArray⟩) ∧ ∃ k os, w' = grow (w.drewN k) os := Any.strconv_Itoa Tryz.laysM171 n h0 h1 w htab
end Go.Proofs
end
section
namespace Go.Proofs.YtoeblmcibheldaaGreatDoor.V.W
open Go Go.RowKit Go.Proofs.YtoeblmcibheldaaGreatDoor.V
theorem gl_pow : (3, fun cs => cs = (Lib.pow10Tab.map fun z => Value.int .u64 z).toArray) ∈ gls := by first | exact .head _ | exact .tail _ (.head _)
theorem itoa_vc (n : Int) (h0 : -9223372036854775808 ≤ n) (h1 : n ≤ 9223372036854775807) : VC Tryz.prog 32 [.v false (.int .i64) n] (· = .v false .str (bs (Lib.itoa n))) := by
 refine ⟨⟨_, Tryz.func32, by kernel_rfl, by kernel_rfl⟩, fun Z w vals hz hl ha => ?_⟩
 obtain ⟨v, rfl⟩ : ∃ v, vals = [v] := by
  match vals, hl with
  | [v], _ => exact ⟨v, rfl⟩
 obtain ⟨cs, m1, m2⟩ := (ha 0 _ _ rfl rfl : ARep w Z (.v false (.int .i64) n) v)
 simp only [Rep] at m2
 subst m2
 obtain rfl : v = .int .i64 n := by simpa [mkV] using m1.symm
 obtain ⟨z, cs, x, y, e1, e2⟩ := hz.gl _ gl_pow
 have htab : Lib.TabIs Tryz.prog w "internal/strconv.uint64pow10" .u64 Lib.pow10Tab := by
  have hn : Tryz.prog.globalNamed "internal/strconv.uint64pow10" = some 3 := by kernel_rfl
  simp only [Lib.TabIs, World.var?, hn, Option.bind_some]
  rw [e1]
  exact congrArg some e2
 refine (Tryz.strconv_Itoa n h0 h1 w htab).mono fun e w' ⟨he, k, os, hw⟩ => ⟨_, _, he, ?_, rfl, FRes.same rfl ⟨_, rfl, by simp only [Rep]; rfl⟩⟩
 subst hw
 have hb := Lib.below_grow w.heap.size w (Nat.le_refl _) k os
 exact ⟨hb.os, hb.tape, hb.output, hb.size, fun b hb' => hb.block b hb'⟩
set_option maxRecDepth 20000 in
theorem formatInt_vc (n : Int) (h0 : -9223372036854775808 ≤ n) (h1 : n ≤ 9223372036854775807) : VC Tryz.prog 10 [.v false (.int .i64) n] (· = .v false .str (bs (Lib.itoa n))) := by
 refine VC.of_body hT Tryz.func10 rfl (by kernel_rfl) [(.tmp 2, false, .str)] (by kernel_rfl) ?_
 show VW _ _ ([.v false (.int .i64) n, D, D, D, D]) _
 repeat refine VW.seq ?_
 refine VW.regl hT fun K hK => ?_
 simp only [wq, simprocAttr]
 refine hK _ ?_
 clear hK K
 try refine vthen_n ?_
 repeat refine VW.seq ?_
 refine VW.regl hT fun K hK => ?_
 simp only [wq, simprocAttr]
 refine vcall_of (itoa_vc n h0 h1) ?_
 simp only [wq, simprocAttr]
 refine hK _ ?_
 clear hK K
 try refine vthen_n ?_
 exact VW.ret ⟨.inl rfl, _, rfl, rfl⟩
end Go.Proofs.YtoeblmcibheldaaGreatDoor.V.W
end

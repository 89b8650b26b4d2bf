/- The operations, one by one: where the reading goes, the machine does. First part. No condition. -/
import Derived.Test.YteeklekfafedcaaV6
set_option linter.unusedVariables false
namespace Go.Proofs.Yteeklekfafedcaa.V
open Go Go.RowKit

structure Stp (L L' : Lay) (w w' : World) : Prop where
  os : w'.os = w.os
  tape : w'.tape = w.tape
  output : w'.output = w.output
  size : w.heap.size ≤ w'.heap.size
  block : ∀ b, b < w.heap.size → (∀ t, ¬ L.F t b) → w'.heap[b]? = w.heap[b]?
  Z : L'.Z = L.Z
  F : ∀ t b, L'.F t b → (∃ t', L.F t' b) ∨ w.heap.size ≤ b
theorem Stp.refl (L : Lay) (w : World) : Stp L L w w := ⟨rfl, rfl, rfl, Nat.le_refl _, fun _ _ _ => rfl, rfl, fun t b h => .inl ⟨t, h⟩⟩
theorem Stp.trans {A B C : Lay} {w1 w2 w3 : World} (h : Stp A B w1 w2) (k : Stp B C w2 w3) : Stp A C w1 w3 where
  os := k.os.trans h.os
  tape := k.tape.trans h.tape
  output := k.output.trans h.output
  size := Nat.le_trans h.size k.size
  block := fun b hb hn => (k.block b (Nat.lt_of_lt_of_le hb h.size) (fun t ht => by
    rcases h.F t b ht with ⟨t', h'⟩ | h'
    · exact hn t' h'
    · omega)).trans (h.block b hb hn)
  Z := k.Z.trans h.Z
  F := fun t b hb => by
    rcases k.F t b hb with ⟨t', h'⟩ | h'
    · exact h.F t' b h'
    · have := h.size; exact .inr (by omega)
theorem Stp.sub {L L' : Lay} (h : Sub L' L) (w : World) : Stp L L' w w := ⟨rfl, rfl, rfl, Nat.le_refl _, fun _ _ _ => rfl, h.Z, fun t b hb => .inl (h.F t b hb)⟩
theorem Stp.ext {L : Lay} {w w' : World} (h : Ext w w') : Stp L L w w' := ⟨h.os, h.tape, h.output, h.size, fun b hb _ => h.block b hb, rfl, fun t b h => .inl ⟨t, h⟩⟩

def setD (st : St) : Option Tmp → PV → St
  | none, _ => st
  | some d, pv => st.set d pv

def Free : Nat → Prop := fun _ => False

/-- the operation runs, and what it leaves is what the reading says -/
def Goes (P : Program) (o : Oper) (a : Act) (w : World) (L : Lay) (st : St) (pv : PV) : Prop :=
  ∃ v w', ((execOp a.eval o).run P w = .ok (.value v) w' ∨ ((execOp a.eval o).run P w = .ok .skip w' ∧ v = undef)) ∧
    ∀ dst : Option Tmp, (∀ d, dst = some d → (st.at d).isRoot = false) → ∃ L', Stp L L' w w' ∧ Rel L' (setD st dst pv) (a.put dst v) w' Free

section
variable {P : Program} {o : Oper} {L L1 : Lay} {st st1 : St} {a : Act} {w w' : World} {R : Nat → Prop}

theorem Rel.freeR (h : Rel L st a w R) {R' : Nat → Prop} (k : ∀ b, R' b → R b) : Rel L st a w R' := ⟨h.size, h.defers, h.zlt, h.flt, h.dj, fun b hb => h.rlt b (k b hb), fun t b hb hr => h.rdj t b hb (k b hr), h.tmp⟩

theorem goes_o {v : Value} {pv : PV} (hrun : (execOp a.eval o).run P w = .ok (.value v) w') (hs : Stp L L1 w w') (h : Rel L1 st a w' R) (hn : pv.isRoot = false) (hp : ORep L1 st w' pv v) : Goes P o a w L st pv := by
  refine ⟨v, w', .inl hrun, fun dst hd => ⟨L1, hs, ?_⟩⟩
  cases dst with
  | none => exact h.freeR (fun _ h => h.elim)
  | some d => exact (h.setO (hd d rfl) hn hp).freeR (fun _ h => h.elim)

theorem goes_r {v : Value} {k : RK} {s : Sh} {f : Fl} {x : s.ty} {cs : List Value} {ad : Option Addr} {B Fd : Nat → Prop} (hrun : (execOp a.eval o).run P w = .ok (.value v) w') (hs : Stp L L1 w w') (h : Rel L1 st a w' R)
    (h1 : RootAt w' k s v cs ad) (h2 : ∀ b, B b → Fd b) (h3 : ∀ A, ad = some A → ¬ B A.block ∧ Fd A.block) (h4 : Rep w' L1.Z s f x cs B) (h5 : ∀ b, Fd b → b < w'.heap.size ∧ ¬ L1.Z b ∧ (∀ t, ¬ L1.F t b)) (h6 : ∀ b, Fd b → (∃ t, L.F t b) ∨ w.heap.size ≤ b) : Goes P o a w L st (.root k s f x) := by
  refine ⟨v, w', .inl hrun, fun dst hd => ?_⟩
  cases dst with
  | none => exact ⟨L1, hs, h.freeR (fun _ h => h.elim)⟩
  | some d =>
    refine ⟨L1.set d Fd cs ad, ⟨hs.os, hs.tape, hs.output, hs.size, hs.block, hs.Z, fun t b hb => ?_⟩, h.setR (hd d rfl) h1 h2 h3 h4 h5 (fun b hb => hb.elim)⟩
    simp only [Lay.set] at hb
    split at hb
    · exact h6 b hb
    · exact hs.F t b hb

theorem ref_root (st : St) (x : Operand) : (ref st x).isRoot = false := by
  cases x with
  | tmp t =>
    simp only [ref]
    split <;> first | rfl | skip
    rename_i h1 h2 h3 h4
    cases hp : st.at t with
    | root k s f x => cases k <;> (first | exact absurd hp (h1 _ _ _ _) | exact absurd hp (h2 _ _ _ _) | exact absurd hp (h3 _ _ _ _ _) | exact absurd hp (h4 _ _ _ _))
    | _ => rfl
  | const c => simp only [ref, ev, cvalue]; split <;> rfl
  | func f => rfl
  | global g => rfl

theorem look_rt {rt : St} (hrt : ∀ g k s f x, rt.at g = .root k s f x → st.at g = .root k s f x) {g : Nat} {p : Path} {c : (s : Sh) × Fl × s.ty} (h : look rt g p = some c) : look st g p = some c := by
  unfold look at h ⊢
  split at h
  · rename_i k s f x hg
    rw [hrt g k s f x hg]; exact h
  · cases h

theorem ORep.int {k : IntKind} {n : Int} {v : Value} (h : ORep L st w (.v false (.int k) n) v) : v = .int k n := by
  obtain ⟨cs, h1, h2⟩ := h
  simp only [Rep] at h2
  subst h2
  simpa [mkV] using h1.symm
theorem ORep.bool {b : Bool} {v : Value} (h : ORep L st w (.v false .bool b) v) : v = .bool b := by
  obtain ⟨cs, h1, h2⟩ := h
  simp only [Rep] at h2
  subst h2
  simpa [mkV] using h1.symm
theorem ORep.str {b : ByteArray} {v : Value} (h : ORep L st w (.v false .str b) v) : v = .string b := by
  obtain ⟨cs, h1, h2⟩ := h
  simp only [Rep] at h2
  subst h2
  simpa [mkV] using h1.symm
theorem ORep.mkInt (k : IntKind) (n : Int) : ORep L st w (.v false (.int k) n) (.int k n) := ⟨[_], rfl, rfl⟩
theorem ORep.mkBool (b : Bool) : ORep L st w (.v false .bool b) (.bool b) := ⟨[_], rfl, rfl⟩
theorem ORep.mkStr (b : ByteArray) : ORep L st w (.v false .str b) (.string b) := ⟨[_], rfl, rfl⟩

variable {T : List (Nat × TI)} {rt : St} {out : Out}

theorem moveTup_ok (h : Rel L st a w Free) {x : Operand} (hrun : (execOp a.eval o).run P w = .ok (.value (a.eval x)) w) (hm : moveTup st x = some out) : out.c = true ∧ Goes P o a w L out.st out.pv ∧ (out.cl = true → out.st = st) := by
  unfold moveTup at hm
  split at hm
  · rename_i t
    split at hm
    · rename_i ag s f x hg
      obtain ⟨r1, B, r2, r3, r4⟩ := h.root hg
      by_cases hpl : s.plain = true
      · rw [if_pos hpl] at hm
        obtain rfl := Option.some.inj hm
        exact ⟨rfl, goes_r hrun (Stp.refl _ _) h r1 (B := Free) (Fd := Free) (fun _ h => h) (fun A hA => by rw [r1.2.2] at hA; cases hA) (r4.plain hpl) (fun b hb => hb.elim) (fun b hb => hb.elim), fun _ => rfl⟩
      rw [if_neg hpl] at hm
      obtain rfl := Option.some.inj hm
      obtain ⟨_, rg, _, _⟩ := h.gone hg
      have hsub : Sub ⟨L.Z, fun t' b => if t' = t then False else L.F t' b, L.C, L.D⟩ L := ⟨rfl, fun t' b hb => by
        simp only at hb
        split at hb
        · exact hb.elim
        · exact ⟨t', hb⟩⟩
      exact ⟨rfl, goes_r hrun (Stp.sub hsub w) rg r1 r2 r3 r4 (fun b hb => ⟨(h.flt t b hb).1, (h.flt t b hb).2, fun t' ht => rg.rdj t' b ht (.inr hb)⟩) (fun b hb => .inl ⟨t, hb⟩), fun e => by cases e⟩
    · cases hm
  · cases hm

theorem pop_move (h : Rel L st a w Free) {x : Operand} (ho : o.op = .move x ∨ o.op = .assign x) (hp : pop T rt st o = some out) : out.c = true ∧ Goes P o a w L out.st out.pv ∧ (out.cl = true → out.st = st) := by
  have hrun : (execOp a.eval o).run P w = .ok (.value (a.eval x)) w := by
    rcases ho with ho | ho <;> simp [execOp, ho]
  by_cases hmt : o.op = .move x ∧ (moveTup st x).isSome = true
  · obtain ⟨ho, hmt⟩ := hmt
    obtain ⟨out', hm⟩ := Option.isSome_iff_exists.1 hmt
    unfold pop at hp
    rw [ho] at hp
    simp only [hm] at hp
    obtain rfl := Option.some.inj hp
    exact moveTup_ok h hrun hm
  have hout : out = ⟨true, true, st, ref st x⟩ := by
    rcases ho with ho | ho
    · have hn : moveTup st x = none := by
        cases hq : moveTup st x with
        | none => rfl
        | some y => exact absurd ⟨ho, by rw [hq]; rfl⟩ hmt
      unfold pop at hp
      rw [ho] at hp
      simp only [hn] at hp
      split at hp
      · cases hp
      · exact (Option.some.inj hp).symm
    unfold pop at hp
    rw [ho] at hp
    simp only at hp
    · split at hp
      · rename_i e
        split at hp
        · rw [e]; exact (Option.some.inj hp).symm
        · cases hp
      · exact (Option.some.inj hp).symm
  subst hout
  exact ⟨rfl, goes_o hrun (Stp.refl _ _) h (ref_root st x) (h.opnd x), fun _ => rfl⟩

theorem ev_bool (h : Rel L st a w R) {c : Operand} {t : Bool} (hc : ev st c = .v false .bool t) : a.eval c = .bool t := by
  cases c with
  | tmp u =>
    simp only [ev] at hc
    have := h.orep (t := u) (by rw [hc]; rfl)
    rw [hc] at this
    exact this.bool
  | const v =>
    simp only [ev, cvalue] at hc
    split at hc
    · cases hc
    · injection hc with _ _ h3
      subst h3; rfl
    · cases hc
    · cases hc
    · cases hc
  | func f => simp [ev] at hc
  | global g => simp [ev] at hc

theorem pop_pick (h : Rel L st a w Free) {c x y : Operand} (ho : o.op = .pick c x y) (hp : pop T rt st o = some out) : out.c = true ∧ Goes P o a w L out.st out.pv ∧ (out.cl = true → out.st = st) := by
  unfold pop at hp
  rw [ho] at hp
  simp only at hp
  split at hp
  · rename_i t hc
    have hv := ev_bool h hc
    cases t with
    | true =>
      have hq : out = ⟨true, true, st, ref st x⟩ := by
        simp only at hp
        split at hp
        · cases hp
        · exact (Option.some.inj hp).symm
      subst hq
      exact ⟨rfl, goes_o (v := a.eval x) (by simp [execOp, ho, hv, asBool]) (Stp.refl _ _) h (ref_root st x) (h.opnd x), fun _ => rfl⟩
    | false =>
      have hq : out = ⟨true, true, st, ref st y⟩ := by
        simp only at hp
        split at hp
        · cases hp
        · exact (Option.some.inj hp).symm
      subst hq
      exact ⟨rfl, goes_o (v := a.eval y) (by simp [execOp, ho, hv, asBool]) (Stp.refl _ _) h (ref_root st y) (h.opnd y), fun _ => rfl⟩
  · cases hp

theorem pop_alloc (hT : TabOk P T) (h : Rel L st a w Free) {t : Nat} (ho : o.op = .alloc t) (hp : pop T rt st o = some out) : out.c = true ∧ Goes P o a w L out.st out.pv ∧ (out.cl = true → out.st = st) := by
  unfold pop at hp
  rw [ho] at hp
  simp only at hp
  split at hp
  · rename_i i hi
    obtain rfl := (Option.some.inj hp)
    obtain ⟨ti, z, h1, h2, h3, h4, h5⟩ := (hT t i hi).info
    refine ⟨rfl, ?_, fun _ => rfl⟩
    have hrun : (execOp a.eval o).run P w = .ok (.value (.pointer (some ⟨w.heap.size, 0, none⟩))) (w.alloc (.cells z.cells t)) := by
      simp [execOp, ho, Instr.alloc, zeroValue, typeInfo, h1, h4, newVar, newRow]
    have hz : z.cells = i.sh.encZ.toArray := by rw [← h5]
    refine goes_r (cs := i.sh.encZ) (ad := some ⟨w.heap.size, 0, none⟩) (B := Free) (Fd := fun b => b = w.heap.size) hrun (Stp.ext (Ext.alloc w _)) (h.grow (Ext.alloc w _)) ?_ (fun b hb => hb.elim) (fun A hA => ?_) (Rep.zero _ _ _ _) (fun b hb => ?_) (fun b hb => .inr (by omega))
    · exact ⟨w.heap.size, rfl, by rw [← hz]; exact heap_alloc_new w _, rfl⟩
    · obtain rfl := Option.some.inj hA; exact ⟨id, rfl⟩
    · subst hb
      refine ⟨by simp, fun hz => ?_, fun t ht => ?_⟩
      · have := h.zlt _ hz; omega
      · have := (h.flt _ _ ht).1; omega
  · cases hp

theorem pop_box (hT : TabOk P T) (h : Rel L st a w Free) {t : Nat} {x : Operand} (ho : o.op = .box t x) (hp : pop T rt st o = some out) : out.c = true ∧ Goes P o a w L out.st out.pv ∧ (out.cl = true → out.st = st) := by
  unfold pop at hp
  rw [ho] at hp
  simp only at hp
  split at hp
  · rename_i i hi
    split at hp
    · rename_i f y st' hg
      obtain rfl := (Option.some.inj hp)
      obtain ⟨L', B1, cs, g1, g2, g3, g4, g5, g6, g7⟩ := h.grab (h.opnd x) hg
      refine ⟨rfl, ?_, fun hcl => g7 (by simpa using hcl)⟩
      have hcs := mkV_cells g4 g5.one
      have hrun : (execOp a.eval o).run P w = .ok (.value (.pointer (some ⟨w.heap.size, 0, none⟩))) (w.alloc (.cells cs.toArray t)) := by
        have : (a.eval x).cells = cs.toArray := by rw [← hcs]
        simp [execOp, ho, Instr.box, newVar, newRow, this]
      have hB : ∀ b, B1 b → b < w.heap.size := fun b hb => by obtain ⟨t, ht⟩ := (g3 b hb).2; exact (h.flt t b ht).1
      refine goes_r (cs := cs) (ad := some ⟨w.heap.size, 0, none⟩) (B := B1) (Fd := fun b => B1 b ∨ b = w.heap.size) hrun ((Stp.sub g1 w).trans (Stp.ext (Ext.alloc w _))) (g2.grow (Ext.alloc w _)) ?_ (fun b hb => .inl hb) (fun A hA => ?_) ?_ (fun b hb => ?_) (fun b hb => ?_)
      · exact ⟨w.heap.size, rfl, heap_alloc_new w _, rfl⟩
      · obtain rfl := Option.some.inj hA
        exact ⟨fun hb => by have := hB _ hb; simp at this, .inr rfl⟩
      · rw [g1.Z]
        exact g5.frame (fun _ h => h) (fun b hb => heap_alloc_old w _ b (by rcases hb with hb | hb; exact h.zlt b hb; exact hB b hb))
      · rcases hb with hb | hb
        · refine ⟨by have := hB b hb; simp; omega, fun hz => ?_, fun t ht => ?_⟩
          · obtain ⟨t, ht⟩ := (g3 b hb).2
            exact (h.flt t b ht).2 (g1.Z ▸ hz)
          · exact g2.rdj t b ht (.inr hb)
        · subst hb
          refine ⟨by simp, fun hz => ?_, fun t ht => ?_⟩
          · have := h.zlt _ (g1.Z ▸ hz); omega
          · have := (g2.flt _ _ ht).1; omega
      · rcases hb with hb | hb
        · exact .inl (g3 b hb).2
        · exact .inr (by omega)
    · cases hp
  · cases hp

theorem pop_load (hT : TabOk P T) (h : Rel L st a w Free) (hrt : ∀ g k s f x, rt.at g = .root k s f x → st.at g = .root k s f x) {t : Nat} {x : Operand} (ho : o.op = .load t x) (hp : pop T rt st o = some out) : out.c = true ∧ Goes P o a w L out.st out.pv ∧ (out.cl = true → out.st = st) := by
  unfold pop at hp
  rw [ho] at hp
  simp only at hp
  have hv := h.opnd x
  split at hp
  · rename_i i hi
    have hTt := hT t i hi
    split at hp
    · rename_i g p hx
      rw [hx] at hv
      split at hp
      · rename_i s f y hl
        split at hp
        · rename_i hs
          obtain rfl := (Option.some.inj hp)
          refine ⟨rfl, ?_, fun _ => rfl⟩
          obtain ⟨s1, cs1, A, h1, h2⟩ := hv
          have hl' := look_rt hrt hl
          have hss : s = s1 := by
            obtain ⟨k0, s0, f0, x0, e1, e2, ⟨f1, x1, e3⟩, e4⟩ := h1
            unfold look at hl'
            rw [e1] at hl'
            simp only at hl'
            rw [e3] at hl'
            exact (congrArg Sigma.fst (Option.some.inj hl')).symm
          subst hss
          obtain ⟨q1, q2, B1, q3, q4⟩ := h.place h1 hl'
          obtain ⟨v, r1, r2⟩ := run_loadVarAt (P := P) hTt q1 (by rw [q4.len, hs])
          have hrun : (execOp a.eval o).run P w = .ok (.value v) w := by
            simp [execOp, ho, Instr.loadAt, Instr.sureAddr, h2, r1]
          unfold loaded
          by_cases hpl : (s.plain || Fl.allfz s f) = true
          · rw [if_pos hpl]
            refine goes_o hrun (Stp.refl _ _) h rfl ⟨cs1, r2, ?_⟩
            simp only [Bool.or_eq_true] at hpl
            rcases hpl with hpl | hpl
            · exact q4.plain hpl
            · exact q4.allfz hpl
          · rw [if_neg hpl]
            refine goes_o hrun (Stp.refl _ _) h rfl ⟨s, cs1, some A, h1, r2, fun hag => ?_⟩
            simp only [Bool.or_eq_true, not_or, Bool.not_eq_true] at hpl
            have hone := hTt.one hag
            rw [← hs] at hone
            cases s with
            | sl _ _ => rfl
            | unit => simp [Sh.plain] at hpl
            | int _ => simp [Sh.plain] at hpl
            | bool => simp [Sh.plain] at hpl
            | str => simp [Sh.plain] at hpl
            | pr a b =>
              -- a struct in one cell is none of the table's shapes
              exact absurd hpl.1 (by have := hTt.noPr hag; rw [← hs] at this; simp [Sh.isPr] at this)
        · cases hp
      · cases hp
    · rename_i s y hx
      rw [hx] at hv
      split at hp
      · rename_i hs
        obtain rfl := (Option.some.inj hp)
        refine ⟨rfl, ?_, fun _ => rfl⟩
        obtain ⟨ad, cs, h1, h2, h3, h4, h5⟩ := hv
        obtain ⟨v, r1, r2⟩ := run_loadVarAt (P := P) hTt (A := ad) (cs := cs) (fun A hA j hj => by obtain rfl := Option.some.inj hA; exact h4 j (by omega)) (by rw [h2, hs])
        refine goes_o (v := v) ?_ (Stp.refl _ _) h rfl ⟨cs, r2, h5⟩
        simp [execOp, ho, Instr.loadAt, Instr.sureAddr, h1, r1]
      · cases hp
    · cases hp
  · cases hp
end
end Go.Proofs.Yteeklekfafedcaa.V

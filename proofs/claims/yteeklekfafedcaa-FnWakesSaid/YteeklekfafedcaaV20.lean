/- Regions that run in any order. No condition. -/
import Derived.Test.YteeklekfafedcaaV19
set_option linter.unusedVariables false
namespace Go.Proofs.Yteeklekfafedcaa.V
open Go Go.RowKit

def ments : PV → List Nat
  | .h _ g _ => [g]
  | .adr g _ => [g]
  | .fn _ caps => caps.filterMap fun | .adr g _ => some g | .fadr .. => none
  | _ => []

section
variable {o : Oper} {st : St} {T : List (Nat × TI)} {rt rt' : St}

theorem look_eq {g : Nat} (h : rt'.at g = rt.at g) (p : Path) : look rt' g p = look rt g p := by unfold look; rw [h]

theorem lenOf_eq {pv : PV} (h : ∀ g ∈ ments pv, rt'.at g = rt.at g) : lenOf rt' pv = lenOf rt pv := by
  cases pv with
  | h agg g p => cases agg <;> simp only [lenOf, look_eq (h g (by simp [ments]))]
  | v agg s x => cases agg <;> cases s <;> rfl
  | _ => rfl
theorem rowOf_eq {e : TypeId} {s : Sh} {pv : PV} (h : ∀ g ∈ ments pv, rt'.at g = rt.at g) : rowOf rt' e s pv = rowOf rt e s pv := by
  cases pv with
  | h agg g p => cases agg <;> simp only [rowOf, look_eq (h g (by simp [ments]))]
  | v agg s x => cases agg <;> rfl
  | _ => rfl

theorem pop_rt (h : ∀ x ∈ o.op.operands.toList, ∀ g ∈ ments (ref st x), rt'.at g = rt.at g) (hr : ∀ t ∈ reads o, rt'.at t = rt.at t) : pop T rt' st o = pop T rt st o := by
  cases ho : o.op with
  | load t x =>
    have hx := h x (by simp [ho, Op.operands])
    unfold pop
    simp only [ho]
    cases hp : ref st x with
    | adr g p => rw [hp] at hx; simp only [look_eq (hx g (by simp [ments]))]
    | _ => rfl
  | fieldAddr t x n =>
    have hx := h x (by simp [ho, Op.operands])
    unfold pop
    simp only [ho]
    cases hp : ref st x with
    | adr g p => rw [hp] at hx; simp only [look_eq (hx g (by simp [ments]))]
    | _ => rfl
  | field t x n =>
    have hx := h x (by simp [ho, Op.operands])
    unfold pop
    simp only [ho]
    cases tget T t with
    | none => rfl
    | some i =>
      simp only
      generalize i.fs[n]? = q
      cases hp : ref st x with
      | h agg g p =>
        rw [hp] at hx
        have e := look_eq (hx g (by simp [ments])) p
        cases agg with
        | true => cases q with
          | none => rfl
          | some ab => obtain ⟨a, b⟩ := ab; simp only [e]
        | false => cases q <;> rfl
      | v agg s x => cases agg <;> cases q <;> rfl
      | _ => cases q <;> rfl
  | indexAddr t x y =>
    have hx := h x (by simp [ho, Op.operands])
    unfold pop
    simp only [ho]
    cases hp : ref st x with
    | h agg g p => rw [hp] at hx; cases agg <;> simp only [look_eq (hx g (by simp [ments]))]
    | v agg s x => cases agg <;> rfl
    | _ => rfl
  | extract x n => cases x with
    | tmp t =>
      unfold pop
      simp only [ho, hr t (mem_reads (by simp [ho, Op.operands]))]
    | _ => unfold pop; simp only [ho]
  | call c =>
    obtain ⟨callee, args, ts⟩ := c
    have hm : ∀ x ∈ args.toList, ∀ g ∈ ments (ref st x), rt'.at g = rt.at g := fun x hx => h x (by simp only [ho, Op.operands, Call.operands]; first | exact hx | (cases callee <;> simp_all))
    cases callee with
    | builtin b => cases b with
      | len =>
        unfold pop
        simp only [ho]
        split
        · rename_i x t ha ht
          rw [lenOf_eq (hm x (by rw [ha]; simp))]
        · rfl
      | append =>
        unfold pop
        simp only [ho]
        split
        · rename_i x y t t' ha ht
          have : ∀ e s, rowOf rt' e s (ref st y) = rowOf rt e s (ref st y) := fun e s => rowOf_eq (hm y (by rw [ha]; simp))
          simp only [this]
        · rfl
      | _ => unfold pop; simp only [ho]
    | _ => unfold pop; simp only [ho]
  | makeFunc f first caps => cases f <;> (unfold pop; simp only [ho])
  | slice t x lo hi mx => cases mx <;> (unfold pop; simp only [ho])
  | _ => unfold pop; simp only [ho]

theorem lendCap_eq {c : Cap} (h : ∀ g p, c = .adr g p → rt'.at g = rt.at g) : lendCap rt' c = lendCap rt c := by
  cases c with
  | adr g p => simp only [lendCap, look_eq (h g p rfl)]
  | fadr => rfl
theorem lendCaps_eq : ∀ (caps : List Cap), (∀ g p, Cap.adr g p ∈ caps → rt'.at g = rt.at g) → lendCaps rt' caps = lendCaps rt caps
  | [], _ => rfl
  | c :: r, h => by
    simp only [lendCaps]
    rw [lendCap_eq fun g p e => h g p (by rw [e]; exact List.mem_cons_self), lendCaps_eq r fun g p hm => h g p (List.mem_cons_of_mem _ hm)]
theorem ments_fn {f : FuncId} {caps : List Cap} {g : Nat} {p : Path} (h : Cap.adr g p ∈ caps) : g ∈ ments (.fn f caps) := by
  simp only [ments, List.mem_filterMap]
  exact ⟨_, h, rfl⟩
theorem lend_eq {pv : PV} (h : ∀ g ∈ ments pv, rt'.at g = rt.at g) : lend rt' pv = lend rt pv := by
  cases pv with
  | h agg g p => simp only [lend, look_eq (h g (by simp [ments]))]
  | adr g p => simp only [lend]; exact lendCap_eq fun g' p' e => by cases e; exact h _ (by simp [ments])
  | fn f caps => simp only [lend]; rw [lendCaps_eq caps fun g p hm => h g (ments_fn hm)]
  | _ => rfl
theorem lendAll_eq {st' : St} : ∀ (xs : List Operand), (∀ x ∈ xs, ref st' x = ref st x) → (∀ x ∈ xs, ∀ g ∈ ments (ref st x), rt'.at g = rt.at g) → lendAll rt' st' xs = lendAll rt st xs
  | [], _, _ => rfl
  | x :: r, h1, h2 => by
    simp only [lendAll]
    rw [h1 x List.mem_cons_self, lend_eq (h2 x List.mem_cons_self), lendAll_eq r (fun y hy => h1 y (List.mem_cons_of_mem _ hy)) (fun y hy => h2 y (List.mem_cons_of_mem _ hy))]
end

/-! ### the order of the operations -/
def uni (a b : List Nat) : List Nat := a.foldl (fun acc x => if acc.contains x then acc else x :: acc) b
theorem mem_uni {x : Nat} : ∀ {a b : List Nat}, x ∈ uni a b → x ∈ a ∨ x ∈ b
  | [], b, h => .inr h
  | y :: a, b, h => by
    unfold uni at h
    simp only [List.foldl_cons] at h
    rcases mem_uni (a := a) h with h | h
    · exact .inl (List.mem_cons_of_mem _ h)
    · split at h
      · exact .inr h
      · rcases List.mem_cons.1 h with rfl | h
        · exact .inl List.mem_cons_self
        · exact .inr h

def ancStep (acc : List (List Nat)) (es : List Edge) : List Nat := es.foldl (fun l e => if Region.binds .any e then uni (e.on :: acc.getD e.on []) l else l) []
def ancsGo : List Oper → List (List Nat) → List (List Nat)
  | [], acc => acc
  | o :: r, acc => ancsGo r (acc ++ [ancStep acc o.after.toList])

theorem ancStep_mem {acc : List (List Nat)} {m : Nat} : ∀ {es : List Edge}, m ∈ ancStep acc es → ∃ e ∈ es, Region.binds .any e = true ∧ (m = e.on ∨ m ∈ acc.getD e.on []) := by
  intro es
  have key : ∀ (es : List Edge) (l : List Nat), m ∈ es.foldl (fun l e => if Region.binds .any e then uni (e.on :: acc.getD e.on []) l else l) l → m ∈ l ∨ ∃ e ∈ es, Region.binds .any e = true ∧ (m = e.on ∨ m ∈ acc.getD e.on []) := by
    intro es
    induction es with
    | nil => intro l h; exact .inl h
    | cons e r ih =>
      intro l h
      simp only [List.foldl_cons] at h
      rcases ih _ h with h | ⟨e', h1, h2⟩
      · split at h
        · rename_i hb
          rcases mem_uni h with h | h
          · right
            refine ⟨e, List.mem_cons_self, hb, ?_⟩
            rcases List.mem_cons.1 h with h | h
            · exact .inl h
            · exact .inr h
          · exact .inl h
        · exact .inl h
      · exact .inr ⟨e', List.mem_cons_of_mem _ h1, h2⟩
  intro h
  rcases key es [] h with h | h
  · simp at h
  · exact h

theorem ancsGo_get : ∀ (os : List Oper) (acc : List (List Nat)) (k : Nat), k < acc.length → (ancsGo os acc)[k]? = acc[k]?
  | [], acc, k, _ => rfl
  | o :: r, acc, k, hk => by
    unfold ancsGo
    rw [ancsGo_get r _ k (by simp; omega), List.getElem?_append_left hk]

theorem ancsGo_at : ∀ (os : List Oper) (acc : List (List Nat)) (k : Nat) (o : Oper), os[k]? = some o → ∃ acc', (ancsGo os acc)[acc.length + k]? = some (ancStep acc' o.after.toList) ∧ acc'.length = acc.length + k ∧ ∀ j, j < acc.length + k → acc'.getD j [] = (ancsGo os acc).getD j []
  | [], acc, k, o, h => by simp at h
  | o' :: r, acc, 0, o, h => by
    simp only [List.getElem?_cons_zero, Option.some.injEq] at h
    subst h
    refine ⟨acc, ?_, rfl, fun j hj => ?_⟩
    · unfold ancsGo
      rw [ancsGo_get r _ _ (by simp)]
      simp
    · unfold ancsGo
      rw [List.getD_eq_getElem?_getD, List.getD_eq_getElem?_getD, ancsGo_get r _ j (by simp; omega), List.getElem?_append_left (by omega)]
  | o' :: r, acc, k + 1, o, h => by
    simp only [List.getElem?_cons_succ] at h
    obtain ⟨acc', h1, h2, h3⟩ := ancsGo_at r (acc ++ [ancStep acc o'.after.toList]) k o h
    simp only [List.length_append, List.length_cons, List.length_nil, Nat.zero_add] at h1 h2 h3
    refine ⟨acc', ?_, by omega, fun j hj => ?_⟩
    · unfold ancsGo; rw [show acc.length + (k + 1) = acc.length + 1 + k by omega]; exact h1
    · unfold ancsGo; exact h3 j (by omega)

def anc (ops : Array Oper) (i : Nat) : List Nat := (ancsGo ops.toList []).getD i []
theorem anc_mem {ops : Array Oper} {i m : Nat} {o : Oper} (ho : ops[i]? = some o) (hlt : ∀ e ∈ o.after.toList, Region.binds .any e = true → e.on < i) (hm : m ∈ anc ops i) : ∃ e ∈ o.after.toList, Region.binds .any e = true ∧ (m = e.on ∨ m ∈ anc ops e.on) := by
  obtain ⟨acc', h1, h2, h3⟩ := ancsGo_at ops.toList [] i o (by simpa using ho)
  simp only [List.length_nil, Nat.zero_add] at h1 h2 h3
  unfold anc at hm
  rw [List.getD_eq_getElem?_getD, h1] at hm
  obtain ⟨e, e1, e2, e3⟩ := ancStep_mem hm
  refine ⟨e, e1, e2, e3.imp id fun q => ?_⟩
  unfold anc
  rw [← h3 e.on (hlt e e1 e2)]
  exact q

/-- the slots that may be written before or behind operation i -/
def unav (ops : Array Oper) (i : Nat) : List Nat := (List.range ops.size).filterMap fun j => if (anc ops i).contains j then none else (ops[j]?).bind (·.dst)
def guardOk (ops : Array Oper) (i : Nat) (o : Oper) : Bool := match o.guard with
  | none => true
  | some (j, _) => match (ops[j]?).bind (·.dst) with
    | none => true
    | some d => !(unav ops i).contains d
def drawOk (ops : Array Oper) : Bool := (List.range ops.size).all fun i => match ops[i]? with
  | none => true
  | some o => o.after.toList.all (fun e => !Region.binds .any e || decide (e.on < i)) && (reads o).all (fun t => !(unav ops i).contains t) && guardOk ops i o &&
    (List.range ops.size).all fun j => decide (j = i) || match o.dst, (ops[j]?).bind (·.dst) with
      | some d, some d' => decide (d ≠ d')
      | _, _ => true

def mentOk (U : List Nat) (st : St) (o : Oper) : Bool := o.op.operands.toList.all fun x => (ments (ref st x)).all fun g => !U.contains g

/-- a call whose result is one -/
def vcallD (P : Program) (f : FuncId) (args : List PV) [K : Hd (PV → Prop)] : Prop := ∃ pv, VC P f args (· = pv) ∧ K.val pv
theorem vcallD_of {P : Program} {f : FuncId} {args : List PV} {K : PV → Prop} {pv : PV} (h : VC P f args (· = pv)) (k : K pv) : @vcallD P f args ⟨K⟩ := ⟨_, h, k⟩

def vreadD (P : Program) (T : List (Nat × TI)) (st : St) (o : Oper) [K : Hd (PV → Prop)] : Prop :=
  match o.op with
  | .call ⟨.value fop, args, _⟩ => match ref st fop with
    | .fn f caps => match lendCaps st caps, lendAll st st args.toList with
      | some cs, some (ps, b) => @vcallD P f (ps ++ cs.map capPV) ⟨fun pv => okRes (b || caps.any isAdr) pv = true ∧ K.val pv⟩
      | _, _ => False
    | _ => False
  | _ => match pop T st st o with
    | some out => out.c = true ∧ out.cl = true ∧ K.val out.pv
    | none => False

def vdraw (P : Program) (T : List (Nat × TI)) (ops : Array Oper) : Nat → List Oper → St → (St → Prop) → Prop
  | _, [], st, K => K st
  | i, o :: r, st0, K => @vguard st0 ops o ⟨fun run st => match run with
    | true => mentOk (unav ops i) st o = true ∧ nonroot st o.dst = true ∧ @vreadD P T st o ⟨fun pv => vdraw P T ops (i + 1) r (setD st o.dst pv) K⟩
    | false => nonroot st o.dst = true ∧ vdraw P T ops (i + 1) r (setD st o.dst skipPV) K⟩


section
variable {P : Program} {T : List (Nat × TI)} {ops : Array Oper}

/-- operation i, in a state that is as told but for the slots U, leads on -/
def Sure (P : Program) (ops : Array Oper) (o : Oper) (U : List Nat) (st : St) (pv : PV) : Prop :=
  ∀ (st' : St), (∀ t, t ∉ U → st'.at t = st.at t) → nonroot st' o.dst = true → ∀ (L : Lay) (a : Act) (w : World) (next : Act → World → Prop) (Q : Exit → Act → World → Prop), Rel L st' a w Free →
    (∀ L' a' w', Stp L L' w w' → Rel L' (setD st' o.dst pv) a' w' Free → next a' w') →
    if Region.wanted o (yielded ops a.tmps) then o.wp P a w next Q ∨ (o.asks P a w ∧ LetsOut Q) else next (a.put o.dst undef) w

inductive Tr (P : Program) (ops : Array Oper) : Nat → List Oper → St → St → Prop
  | nil {i : Nat} {st : St} : Tr P ops i [] st st
  | step {i : Nat} {o : Oper} {r : List Oper} {st F : St} {pv : PV} : Sure P ops o (unav ops i) st pv → nonroot st o.dst = true → Tr P ops (i + 1) r (setD st o.dst pv) F → Tr P ops i (o :: r) st F

theorem vdraw_tr (hT : TabOk P T) (hD : drawOk ops = true) {K : St → Prop} : ∀ (os : List Oper) (i : Nat), ops.toList.drop i = os → ∀ {st : St}, vdraw P T ops i os st K → ∃ F, Tr P ops i os st F ∧ K F
  | [], i, hi, st, hv => ⟨st, .nil, hv⟩
  | o :: r, i, hi, st, hv => by
    have ho : ops[i]? = some o := by
      have : (ops.toList.drop i)[0]? = some o := by rw [hi]; rfl
      rw [List.getElem?_drop] at this
      simpa using this
    have hi' : ops.toList.drop (i + 1) = r := by rw [← List.drop_drop, hi]; rfl
    have hlt : i < ops.size := (Array.getElem?_eq_some_iff.1 ho).1
    have hd := List.all_eq_true.1 hD i (List.mem_range.2 hlt)
    rw [ho] at hd
    simp only [Bool.and_eq_true] at hd
    obtain ⟨⟨⟨_, hreads⟩, hguard⟩, _⟩ := hd
    have hreads : ∀ t ∈ reads o, t ∉ unav ops i := fun t ht => by
      have := List.all_eq_true.1 hreads t ht
      simpa using this
    have hgd : ∀ (st' : St), (∀ t, t ∉ unav ops i → st'.at t = st.at t) → ∀ (j : Nat) (want : Bool) (d : Nat), o.guard = some (j, want) → (ops[j]?).bind (·.dst) = some d → st'.at d = st.at d := fun st' hst j want d hg hd => hst d (by
      unfold guardOk at hguard
      rw [hg] at hguard
      simp only [hd] at hguard
      simpa using hguard)
    -- it is run
    have run : (∀ (st' : St) (L : Lay) (a : Act) (w : World), (∀ t, t ∉ unav ops i → st'.at t = st.at t) → Rel L st' a w Free → Region.wanted o (yielded ops a.tmps) = true) →
        (mentOk (unav ops i) st o = true ∧ nonroot st o.dst = true ∧ @vreadD P T st o ⟨fun pv => vdraw P T ops (i + 1) r (setD st o.dst pv) K⟩) → ∃ F, Tr P ops i (o :: r) st F ∧ K F := by
      rintro hw ⟨hm, hn, hr⟩
      have hment : ∀ x ∈ o.op.operands.toList, ∀ g ∈ ments (ref st x), g ∉ unav ops i := fun x hx g hg => by
        have := List.all_eq_true.1 (List.all_eq_true.1 hm x hx) g hg
        simpa using this
      have fin : ∀ pv, (∀ st', (∀ t, t ∉ unav ops i → st'.at t = st.at t) → nonroot st' o.dst = true → Does P o st' (· = setD st' o.dst pv)) → vdraw P T ops (i + 1) r (setD st o.dst pv) K → ∃ F, Tr P ops i (o :: r) st F ∧ K F := by
        intro pv hdo hv'
        obtain ⟨F, f1, f2⟩ := vdraw_tr hT hD r (i + 1) hi' hv'
        refine ⟨F, .step (fun st' h1 h2 L a w next Q hrel hk => ?_) hn f1, f2⟩
        rw [if_pos (hw st' L a w h1 hrel)]
        exact .inl (hdo st' h1 h2 L a w next Q hrel fun st2 L' a' w' e s r' => by subst e; exact hk L' a' w' s r')
      unfold vreadD at hr
      split at hr
      · rename_i fop args ts hop
        split at hr
        · rename_i f caps hf
          split at hr
          · rename_i cs ps b hcs hps
            obtain ⟨pv, hvc, hok, hv'⟩ := hr
            refine fin pv (fun st' h1 h2 => ?_) hv'
            have hargs : ∀ x ∈ args.toList, x ∈ o.op.operands.toList := fun x hx => by simp [hop, Op.operands, Call.operands]; exact .inr (by simpa using hx)
            have hfop : fop ∈ o.op.operands.toList := by simp [hop, Op.operands, Call.operands]
            have hag : ∀ t ∈ reads o, st'.at t = st.at t := fun t ht => h1 t (hreads t ht)
            have hf' : ref st' fop = .fn f caps := by rw [(ref_eq hag hfop).1, hf]
            have hcs' : lendCaps st' caps = some cs := by
              rw [lendCaps_eq caps fun g p hmem => h1 g (hment fop hfop g (by rw [hf]; exact ments_fn hmem)), hcs]
            have hps' : lendAll st' st' args.toList = some (ps, b) := by
              rw [lendAll_eq args.toList (fun x hx => (ref_eq hag (hargs x hx)).1) (fun x hx g hg => h1 g (hment x (hargs x hx) g hg)), hps]
            intro L a w next Q hrel hk
            exact does_call (fun _ _ _ _ _ h => h) hop hf' hcs' hps' hvc h2 (fun pv' e => by subst e; exact hok) L a w next Q hrel fun st2 L' a' w' ⟨pv', e1, e2⟩ s r' => by
              subst e1
              exact hk st2 L' a' w' e2 s r'
          · exact hr.elim
        · exact hr.elim
      · split at hr
        · rename_i out hp
          obtain ⟨hc, hcl, hv'⟩ := hr
          refine fin out.pv (fun st' h1 h2 => ?_) hv'
          have hag : ∀ t ∈ reads o, st'.at t = st.at t := fun t ht => h1 t (hreads t ht)
          have h3 := pop_loc hp hcl hag
          have h4 : pop T st' st' o = some ⟨out.c, true, st', out.pv⟩ := by
            rw [pop_rt (rt := st) (rt' := st') (fun x hx g hg => h1 g (hment x hx g (by rwa [(ref_eq hag hx).1] at hg))) hag]
            exact h3
          exact does_pop hT (fun _ _ _ _ _ h => h) h4 hc h2
        · exact hr.elim
    have skip : (∀ (st' : St) (L : Lay) (a : Act) (w : World), (∀ t, t ∉ unav ops i → st'.at t = st.at t) → Rel L st' a w Free → Region.wanted o (yielded ops a.tmps) = false) →
        (nonroot st o.dst = true ∧ vdraw P T ops (i + 1) r (setD st o.dst skipPV) K) → ∃ F, Tr P ops i (o :: r) st F ∧ K F := by
      rintro hw ⟨hn, hv'⟩
      obtain ⟨F, f1, f2⟩ := vdraw_tr hT hD r (i + 1) hi' hv'
      refine ⟨F, .step (fun st' h1 h2 L a w next Q hrel hk => ?_) hn f1, f2⟩
      rw [if_neg (by rw [hw st' L a w h1 hrel]; simp)]
      obtain ⟨L', s1, s2⟩ := skip_ok hrel h2
      exact hk L' _ w s1 s2
    unfold vdraw at hv
    obtain ⟨rn, h1, h2⟩ := vguard_spec hv
    cases rn with
    | true => exact run (fun st' L a w hag hrel => h2 st' L a w _ (hgd st' hag) hrel) h1
    | false => exact skip (fun st' L a w hag hrel => h2 st' L a w _ (hgd st' hag) hrel) h1
end
end Go.Proofs.Yteeklekfafedcaa.V

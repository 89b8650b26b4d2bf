/- The operations together; and that a clean one reads its operands alone. No condition. -/
import Derived.Test.YteeklekfafedcaaV13
set_option linter.unusedVariables false
namespace Go.Proofs.Yteeklekfafedcaa.V
open Go Go.RowKit

section
variable {P : Program} {o : Oper} {L L1 : Lay} {st st1 : St} {a : Act} {w w' : World} {R : Nat → Prop} {T : List (Nat × TI)} {rt : St} {out : Out}

theorem pop_ok (hT : TabOk P T) (h : Rel L st a w Free) (hrt : ∀ g k s f x, rt.at g = .root k s f x → st.at g = .root k s f x) (hp : pop T rt st o = some out) (hc : out.c = true) : Goes P o a w L out.st out.pv ∧ (out.cl = true → out.st = st) := by
  have hsrc : ∀ t i, tget T t = some i → (P.underlying t).isSome = true := fun t i hi => (hT t i hi).isS
  cases ho : o.op with
  | move x => exact (pop_move h (.inl ho) hp).2
  | assign x => exact (pop_move h (.inr ho) hp).2
  | pick c x y => exact (pop_pick h ho hp).2
  | alloc t => exact (pop_alloc hT h ho hp).2
  | box t x => exact (pop_box hT h ho hp).2
  | build t ps => exact (pop_build hT h ho hp).2
  | buildSlice t n ps => exact (pop_buildSlice hT h ho hp).2
  | load t x => exact (pop_load hT h hrt ho hp).2
  | store t x y => exact (pop_store hT h ho hp).2
  | nilCheck x => exact (pop_nilCheck h ho hp).2
  | binOp op t x y t2 => exact pop_binOp hT h ho hp hc
  | unOp op t x => exact (pop_unOp h ho hp).2
  | convert s d x => exact (pop_convert hT hsrc h ho hp).2
  | makeFunc f first caps => cases f with
    | func f => exact (pop_makeFunc h ho hp).2
    | _ => unfold pop at hp; rw [ho] at hp; cases hp
  | makeSlice t l c => exact pop_makeSlice hT h ho hp hc
  | slice t x lo hi mx => cases mx with
    | none => exact pop_slice hT h ho hp hc
    | some m => unfold pop at hp; rw [ho] at hp; cases hp
  | fieldAddr t x n => exact (pop_fieldAddr hT h hrt ho hp).2
  | field t x n => exact (pop_field hT h hrt ho hp).2
  | indexAddr t x y => exact pop_indexAddr hT h hrt ho hp hc
  | index t x y => exact pop_index hT h ho hp hc
  | extract x n => cases x with
    | tmp t => exact (pop_extract h hrt ho hp).2
    | const c => unfold pop at hp; rw [ho] at hp; cases hp
    | func c => unfold pop at hp; rw [ho] at hp; cases hp
    | global c => unfold pop at hp; rw [ho] at hp; cases hp
  | call c =>
    obtain ⟨callee, args, ts⟩ := c
    cases callee with
    | builtin b => cases b with
      | len => exact (pop_len hT h hrt ho hp).2
      | min => exact (pop_min h ho hp).2
      | max => exact (pop_max h ho hp).2
      | append => exact pop_append hT h hrt ho hp hc
      | _ => unfold pop at hp; rw [ho] at hp; cases hp
    | _ => unfold pop at hp; rw [ho] at hp; cases hp
  | _ => unfold pop at hp; rw [ho] at hp; cases hp
end

/-- the temporaries that an operation reads -/
def reads (o : Oper) : List Nat := o.op.operands.toList.filterMap fun | .tmp t => some t | _ => none

section
variable {o : Oper} {st st' : St} {T : List (Nat × TI)} {rt : St} {out : Out}

theorem grab_nh {agg : Bool} {s : Sh} {pv : PV} (h : pv.isH = false) (st st' : St) : V.grab st' agg s pv = (V.grab st agg s pv).map fun q => (q.1, q.2.1, st') := by
  cases pv with
  | h => cases h
  | v agg' s' y =>
    simp only [V.grab]
    split
    · cases castTo s' s y <;> rfl
    · rfl
  | emp => simp only [V.grab]; split <;> rfl
  | _ => rfl

theorem fillSt_nh {n : Nat} {fs : List (Bool × Sh)} {s : Sh} : ∀ (parts : List (Nat × Operand)) {st st' : St}, (∀ p ∈ parts, ref st' p.2 = ref st p.2) → noH st parts = true → ∀ {f : Fl} {x : s.ty}, fillSt n fs parts st' s f x = (fillSt n fs parts st s f x).map fun q => (q.1, q.2.1, st')
  | [], st, st', _, _, f, x => rfl
  | (i, y) :: r, st, st', he, hn, f, x => by
    have e := he (i, y) List.mem_cons_self
    simp only [noH, List.all_cons, Bool.and_eq_true, Bool.not_eq_true'] at hn
    simp only [fillSt]
    cases hfs : fs[i]? with
    | none => rfl
    | some q =>
      obtain ⟨agg, s1⟩ := q
      simp only
      by_cases hi : i < n
      · simp only [hi, if_true]
        rw [show ref st' y = ref st y from e, grab_nh hn.1 st st']
        have hst : ∀ q, V.grab st agg s1 (ref st y) = some q → q.2.2 = st := by
          intro q hq
          rw [grab_nh hn.1 st st] at hq
          cases hg : V.grab st agg s1 (ref st y) with
          | none => rw [hg] at hq; cases hq
          | some q' => rw [hg] at hq; exact congrArg (·.2.2) (Option.some.inj hq).symm
        cases hg : V.grab st agg s1 (ref st y) with
        | none => rfl
        | some q =>
          obtain ⟨f1, x1, st1⟩ := q
          have := hst _ hg
          simp only at this
          subst this
          simp only [Option.map_some]
          cases hu : upd s1 f1 x1 s f x (fpath i n) with
          | none => rfl
          | some q2 => exact fillSt_nh r (fun p hp => he p (List.mem_cons_of_mem _ hp)) hn.2
      · simp only [hi, if_false, Option.map_none]

theorem fillRow_nh {agg : Bool} {s : Sh} {g : Fl} : ∀ (parts : List (Nat × Operand)) {st st' : St}, (∀ p ∈ parts, ref st' p.2 = ref st p.2) → noH st parts = true → ∀ {xs : List s.ty}, fillRow agg s g parts st' xs = (fillRow agg s g parts st xs).map fun q => (q.1, st')
  | [], st, st', _, _, xs => rfl
  | (i, y) :: r, st, st', he, hn, xs => by
    have e := he (i, y) List.mem_cons_self
    simp only [noH, List.all_cons, Bool.and_eq_true, Bool.not_eq_true'] at hn
    simp only [fillRow]
    rw [show ref st' y = ref st y from e, grab_nh hn.1 st st']
    have hst : ∀ q, V.grab st agg s (ref st y) = some q → q.2.2 = st := by
      intro q hq
      rw [grab_nh hn.1 st st] at hq
      cases hg : V.grab st agg s (ref st y) with
      | none => rw [hg] at hq; cases hq
      | some q' => rw [hg] at hq; exact congrArg (·.2.2) (Option.some.inj hq).symm
    cases hg : V.grab st agg s (ref st y) with
    | none => rfl
    | some q =>
      obtain ⟨f1, x1, st1⟩ := q
      have := hst _ hg
      simp only at this
      subst this
      simp only [Option.map_some]
      split
      · exact fillRow_nh r (fun p hp => he p (List.mem_cons_of_mem _ hp)) hn.2
      · rfl

theorem mem_reads {t : Nat} (h : Operand.tmp t ∈ o.op.operands.toList) : t ∈ reads o := List.mem_filterMap.2 ⟨_, h, rfl⟩

theorem ref_eq (h : ∀ t ∈ reads o, st'.at t = st.at t) {x : Operand} (hx : x ∈ o.op.operands.toList) : ref st' x = ref st x ∧ ev st' x = ev st x := by
  cases x with
  | tmp t => have e := h t (mem_reads hx); simp only [ref, ev, e]; exact ⟨trivial, trivial⟩
  | const c => exact ⟨rfl, rfl⟩
  | func f => exact ⟨rfl, rfl⟩
  | global g => exact ⟨rfl, rfl⟩

theorem capsOf_eq : ∀ (xs : List Operand), (∀ x ∈ xs, ref st' x = ref st x) → capsOf st' xs = capsOf st xs
  | [], _ => rfl
  | x :: r, h => by simp only [capsOf, cOf, h x List.mem_cons_self, capsOf_eq r fun y hy => h y (List.mem_cons_of_mem _ hy)]

theorem noH_eq (xs : List (Nat × Operand)) (h : ∀ p ∈ xs, ref st' p.2 = ref st p.2) : noH st' xs = noH st xs := by
  unfold noH
  rw [Bool.eq_iff_iff, List.all_eq_true, List.all_eq_true]
  exact ⟨fun k p hp => by rw [← h p hp]; exact k p hp, fun k p hp => by rw [h p hp]; exact k p hp⟩

theorem bound_eq {d : Int} {y : Option Operand} (h : ∀ x, y = some x → ref st' x = ref st x) : bound st' d y = bound st d y := by
  cases y with
  | none => rfl
  | some y => simp only [bound, h y rfl]

theorem pop_loc (hp : pop T rt st o = some out) (hcl : out.cl = true) (h : ∀ t ∈ reads o, st'.at t = st.at t) : pop T rt st' o = some ⟨out.c, true, st', out.pv⟩ := by
  have hr : ∀ x, x ∈ o.op.operands.toList → ref st' x = ref st x := fun x hx => (ref_eq h hx).1
  cases ho : o.op with
  | move x =>
    have e1 := hr x (by simp [ho, Op.operands])
    by_cases hsome : (moveTup st x).isSome = true
    · obtain ⟨y, hq⟩ := Option.isSome_iff_exists.1 hsome
      unfold pop at hp
      simp only [ho, hq] at hp
      obtain rfl := Option.some.inj hp
      cases x with
      | tmp t =>
        have ht : st'.at t = st.at t := h t (by simp [reads, ho, Op.operands])
        unfold moveTup at hq
        simp only at hq
        split at hq
        · rename_i ag s f x hg
          by_cases hpl : s.plain = true
          · rw [if_pos hpl] at hq
            obtain rfl := Option.some.inj hq
            unfold pop
            simp only [ho, moveTup, ht, hg, if_pos hpl]
          · rw [if_neg hpl] at hq
            obtain rfl := Option.some.inj hq
            cases hcl
        · cases hq
      | _ => cases hq
    have hmt : moveTup st x = none := by
      cases hq : moveTup st x with
      | none => rfl
      | some y => rw [hq] at hsome; exact absurd rfl hsome
    have hmt' : moveTup st' x = none := by
      cases x with
      | tmp t =>
        have ht : st'.at t = st.at t := h t (by simp [reads, ho, Op.operands])
        unfold moveTup at hmt ⊢
        simp only [ht]
        split
        · rename_i e; simp only [e] at hmt; cases hmt
        · rfl
      | _ => rfl
    unfold pop at hp ⊢
    simp only [ho, e1, hmt, hmt'] at hp ⊢
    repeat' split at hp
    all_goals first | (cases hp; done) | (obtain rfl := Option.some.inj hp; first | rfl | (simp_all; done) | (simp_all; rfl))
  | assign x =>
    have e1 := hr x (by simp [ho, Op.operands])
    unfold pop at hp ⊢
    simp only [ho, e1] at hp ⊢
    repeat' split at hp
    all_goals first | (cases hp; done) | (obtain rfl := Option.some.inj hp; first | rfl | (simp_all; done) | (simp_all; rfl))
  | pick c x y =>
    have e0 := (ref_eq h (x := c) (by simp [ho, Op.operands])).2
    have e1 := hr x (by simp [ho, Op.operands])
    have e2 := hr y (by simp [ho, Op.operands])
    unfold pop at hp ⊢
    simp only [ho, e0, e1, e2] at hp ⊢
    repeat' split at hp
    all_goals first | (cases hp; done) | (obtain rfl := Option.some.inj hp; first | rfl | (simp_all; done) | (simp_all; rfl))
  | alloc t =>
    unfold pop at hp ⊢
    simp only [ho] at hp ⊢
    repeat' split at hp
    all_goals first | (cases hp; done) | (obtain rfl := Option.some.inj hp; first | rfl | (simp_all; done) | (simp_all; rfl))
  | box t x =>
    have e1 := hr x (by simp [ho, Op.operands])
    unfold pop at hp ⊢
    simp only [ho, e1] at hp ⊢
    split at hp
    · rename_i i hi
      split at hp
      · rename_i f y st1 hg
        obtain rfl := Option.some.inj hp
        have hn : (ref st x).isH = false := by simpa using hcl
        rw [grab_nh hn st st', hg]
        simp [hn]
      · cases hp
    · cases hp
  | build t ps =>
    have e1 : ∀ p ∈ ps.toList, ref st' p.2 = ref st p.2 := fun p hp => hr p.2 (by simp only [ho, Op.operands]; exact List.mem_map_of_mem hp)
    unfold pop at hp ⊢
    simp only [ho] at hp ⊢
    split at hp
    · rename_i i hi
      split at hp
      · rename_i hag
        split at hp
        · rename_i f y st1 hg
          obtain rfl := Option.some.inj hp
          have hn : noH st ps.toList = true := hcl
          simp only [hag, if_true]
          rw [fillSt_nh _ e1 hn, hg]
          simp [noH_eq _ e1, hn]
        · cases hp
      · cases hp
    · cases hp
  | buildSlice t n ps =>
    have e1 : ∀ p ∈ ps.toList, ref st' p.2 = ref st p.2 := fun p hp => hr p.2 (by simp only [ho, Op.operands]; exact List.mem_map_of_mem hp)
    unfold pop at hp ⊢
    simp only [ho] at hp ⊢
    cases n with
    | zero =>
      simp only at hp ⊢
      repeat' split at hp
      all_goals first | (cases hp; done) | (obtain rfl := Option.some.inj hp; first | rfl | (simp_all; done) | (simp_all; rfl))
    | succ n =>
      simp only at hp ⊢
      split at hp
      · split at hp
        · rename_i i hi
          split at hp
          · rename_i hst
            split at hp
            · rename_i xs st1 hg
              obtain rfl := Option.some.inj hp
              have hn : noH st ps.toList = true := hcl
              rw [if_pos hst, noH_eq _ e1, fillRow_nh _ e1 hn, hg]
              simp [hn]
            · cases hp
          · cases hp
        · cases hp
      · cases hp
  | load t x =>
    have e1 := hr x (by simp [ho, Op.operands])
    unfold pop at hp ⊢
    simp only [ho, e1] at hp ⊢
    repeat' split at hp
    all_goals first | (cases hp; done) | (obtain rfl := Option.some.inj hp; first | rfl | (simp_all; done) | (simp_all; rfl))
  | store t x y =>
    unfold pop at hp
    rw [ho] at hp
    simp only at hp
    repeat' split at hp
    all_goals first | (cases hp; done) | (obtain rfl := Option.some.inj hp; cases hcl)
  | nilCheck x =>
    have e1 := hr x (by simp [ho, Op.operands])
    unfold pop at hp ⊢
    simp only [ho, e1] at hp ⊢
    repeat' split at hp
    all_goals first | (cases hp; done) | (obtain rfl := Option.some.inj hp; first | rfl | (simp_all; done) | (simp_all; rfl))
  | binOp op t x y t2 =>
    have e1 := hr x (by simp [ho, Op.operands])
    have e2 := hr y (by simp [ho, Op.operands])
    unfold pop at hp ⊢
    simp only [ho, e1, e2] at hp ⊢
    repeat' split at hp
    all_goals first | (cases hp; done) | (obtain rfl := Option.some.inj hp; first | rfl | (simp_all; done) | (simp_all; rfl))
  | unOp op t x =>
    have e1 := hr x (by simp [ho, Op.operands])
    unfold pop at hp ⊢
    simp only [ho, e1] at hp ⊢
    repeat' split at hp
    all_goals first | (cases hp; done) | (obtain rfl := Option.some.inj hp; first | rfl | (simp_all; done) | (simp_all; rfl))
  | convert s d x =>
    have e1 := hr x (by simp [ho, Op.operands])
    unfold pop at hp ⊢
    simp only [ho, e1] at hp ⊢
    repeat' split at hp
    all_goals first | (cases hp; done) | (obtain rfl := Option.some.inj hp; first | rfl | (simp_all; done) | (simp_all; rfl))
  | makeFunc f first caps => cases f with
    | func f =>
      have e1 := capsOf_eq (st := st) (st' := st') caps.toList (fun x hx => hr x (by simp only [ho, Op.operands, Array.toList_append]; exact List.mem_append_right _ hx))
      unfold pop at hp ⊢
      simp only [ho, e1] at hp ⊢
      repeat' split at hp
      all_goals first | (cases hp; done) | (obtain rfl := Option.some.inj hp; first | rfl | (simp_all; done) | (simp_all; rfl))
    | _ => unfold pop at hp; rw [ho] at hp; cases hp
  | makeSlice t l c =>
    have e1 := hr l (by simp [ho, Op.operands])
    have e2 := hr c (by simp [ho, Op.operands])
    unfold pop at hp ⊢
    simp only [ho, e1, e2] at hp ⊢
    repeat' split at hp
    all_goals first | (cases hp; done) | (obtain rfl := Option.some.inj hp; first | rfl | (simp_all; done) | (simp_all; rfl))
  | slice t x lo hi mx => cases mx with
    | none =>
      have e1 := hr x (by simp [ho, Op.operands])
      have e2 : ∀ d, bound st' d lo = bound st d lo := fun d => bound_eq fun y hy => hr y (by simp [ho, Op.operands, hy])
      have e3 : ∀ d, bound st' d hi = bound st d hi := fun d => bound_eq fun y hy => hr y (by simp [ho, Op.operands, hy])
      unfold pop at hp ⊢
      simp only [ho, e1, e2, e3] at hp ⊢
      repeat' split at hp
      all_goals first | (cases hp; done) | (obtain rfl := Option.some.inj hp; first | rfl | (simp_all; done) | (simp_all; rfl))
    | some m => unfold pop at hp; rw [ho] at hp; cases hp
  | fieldAddr t x n =>
    have e1 := hr x (by simp [ho, Op.operands])
    unfold pop at hp ⊢
    simp only [ho, e1] at hp ⊢
    repeat' split at hp
    all_goals first | (cases hp; done) | (obtain rfl := Option.some.inj hp; first | rfl | (simp_all; done) | (simp_all; rfl))
  | field t x n =>
    have e1 := hr x (by simp [ho, Op.operands])
    unfold pop at hp ⊢
    simp only [ho, e1] at hp ⊢
    repeat' split at hp
    all_goals first | (cases hp; done) | (obtain rfl := Option.some.inj hp; first | rfl | (simp_all; done) | (simp_all; rfl) | (simp_all; rename_i hh; obtain ⟨rfl, _, _, hh⟩ := hh; intro a b; simpa [a, b] using hh))
  | indexAddr t x y =>
    have e1 := hr x (by simp [ho, Op.operands])
    have e2 := hr y (by simp [ho, Op.operands])
    unfold pop at hp ⊢
    simp only [ho, e1, e2] at hp ⊢
    repeat' split at hp
    all_goals first | (cases hp; done) | (obtain rfl := Option.some.inj hp; first | rfl | (simp_all; done) | (simp_all; rfl))
  | index t x y =>
    have e1 := hr x (by simp [ho, Op.operands])
    have e2 := hr y (by simp [ho, Op.operands])
    unfold pop at hp ⊢
    simp only [ho, e1, e2] at hp ⊢
    split at hp
    · split at hp
      · obtain rfl := Option.some.inj hp
        first | rfl | (simp_all; done) | (simp_all; rfl)
      · cases hp
    · cases hp
  | extract x n => cases x with
    | tmp t =>
      unfold pop at hp ⊢
      simp only [ho] at hp ⊢
      repeat' split at hp
      all_goals first | (cases hp; done) | (obtain rfl := Option.some.inj hp; first | rfl | (simp_all; done) | (simp_all; rfl))
    | const c => unfold pop at hp; rw [ho] at hp; cases hp
    | func c => unfold pop at hp; rw [ho] at hp; cases hp
    | global c => unfold pop at hp; rw [ho] at hp; cases hp
  | call c =>
    obtain ⟨callee, args, ts⟩ := c
    have hm : ∀ x ∈ args.toList, ref st' x = ref st x := fun x hx => hr x (by simp only [ho, Op.operands, Call.operands]; first | exact hx | (cases callee <;> simp_all))
    cases callee with
    | builtin b => cases b with
      | len =>
        unfold pop at hp ⊢
        simp only [ho] at hp ⊢
        split at hp
        · rename_i x t ha ht
          rw [hm x (by rw [ha]; simp)]
          try simp only [ha, ht]
          repeat' split at hp
          all_goals first | (cases hp; done) | (obtain rfl := Option.some.inj hp; first | rfl | (simp_all; done) | (simp_all; rfl))
        · cases hp
      | min =>
        unfold pop at hp ⊢
        simp only [ho] at hp ⊢
        split at hp
        · rename_i x y ha
          rw [hm x (by rw [ha]; simp), hm y (by rw [ha]; simp)]
          try simp only [ha]
          split at hp
          · obtain rfl := Option.some.inj hp
            first | rfl | (simp_all; done) | (simp_all; rfl)
          · cases hp
        · cases hp
      | max =>
        unfold pop at hp ⊢
        simp only [ho] at hp ⊢
        split at hp
        · rename_i x y ha
          rw [hm x (by rw [ha]; simp), hm y (by rw [ha]; simp)]
          try simp only [ha]
          split at hp
          · obtain rfl := Option.some.inj hp
            first | rfl | (simp_all; done) | (simp_all; rfl)
          · cases hp
        · cases hp
      | append =>
        unfold pop at hp ⊢
        simp only [ho] at hp ⊢
        split at hp
        · rename_i x y t t' ha ht
          rw [hm x (by rw [ha]; simp), hm y (by rw [ha]; simp)]
          try simp only [ha, ht]
          split at hp
          · split at hp
            · rename_i i hi
              split at hp
              · rename_i hst
                rw [if_pos hst]
                split at hp
                · rename_i hpl
                  rw [if_pos hpl]
                  split at hp
                  · rename_i ys hys
                    split at hp
                    · rename_i xs st1 hhd
                      obtain rfl := Option.some.inj hp
                      have hn : (ref st x).isH = false := by simpa using hcl
                      have he : ref st x = .emp := by
                        cases hx : ref st x with
                        | emp => rfl
                        | h => rw [hx] at hn; cases hn
                        | _ => rw [hx] at hhd; simp [headRow] at hhd
                      rw [he] at hhd ⊢
                      simp only [headRow, Option.some.injEq, Prod.mk.injEq] at hhd ⊢
                      obtain ⟨rfl, rfl⟩ := hhd
                      simp [PV.isH]
                    · cases hp
                  · cases hp
                · repeat' split at hp
                  all_goals first | (cases hp; done) | (obtain rfl := Option.some.inj hp; cases hcl)
              · cases hp
            · cases hp
          · cases hp
        · cases hp
      | _ => unfold pop at hp; rw [ho] at hp; cases hp
    | _ => unfold pop at hp; rw [ho] at hp; cases hp
  | _ => unfold pop at hp; rw [ho] at hp; cases hp
end
end Go.Proofs.Yteeklekfafedcaa.V

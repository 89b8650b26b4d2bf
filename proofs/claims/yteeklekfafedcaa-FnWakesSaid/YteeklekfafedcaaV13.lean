/- The operations, one by one: literals. No condition. -/
import Derived.Test.YteeklekfafedcaaV12
import Derived.Great.BuildSlice
set_option linter.unusedVariables false
namespace Go.Proofs.Yteeklekfafedcaa.V
open Go Go.RowKit

theorem Rep.sub {w : World} {Z : Nat → Prop} : ∀ {s : Sh} {f g : Fl} {x : s.ty} {cs : List Value} {B : Nat → Prop}, Fl.sub s f g = true → Rep w Z s f x cs B → Rep w Z s g x cs B
  | .unit, _, _, _, _, _, _, h => h
  | .int _, _, _, _, _, _, _, h => h
  | .bool, _, _, _, _, _, _, h => h
  | .str, _, _, _, _, _, _, h => h
  | .pr a b, f, g, x, cs, B, k, ⟨c1, c2, B1, B2, h1, h2, h3, h4, h5, h6⟩ => by
    simp only [Fl.sub, Bool.and_eq_true] at k
    exact ⟨c1, c2, B1, B2, h1, h2, h3, h4, h5.sub k.1, h6.sub k.2⟩
  | .sl e s, f, g, x, cs, B, k, h => by
    simp only [Fl.sub, Bool.or_eq_true, Bool.and_eq_true, beq_iff_eq] at k
    rcases k with rfl | ⟨⟨hp, hf⟩, hg⟩
    · exact h
    · have imp : ∀ f1 f2 : Fl, OwnR w e s.size (fun x c B' => Rep w Z s f1 x c B') s.zero x cs B → OwnR w e s.size (fun x c B' => Rep w Z s f2 x c B') s.zero x cs B := fun f1 f2 hR => hR.imp fun i c B' _ hr => hr.plain hp
      rcases hf with rfl | rfl <;> rcases hg with rfl | rfl
      · exact h
      · exact imp _ _ h
      · exact imp _ _ h
      · exact h

theorem Rep.zeroF (w : World) (Z : Nat → Prop) : ∀ (s : Sh) (B : Nat → Prop), Rep w Z s .fz s.zero s.encZ B
  | .unit, _ => rfl
  | .int _, _ => rfl
  | .bool, _ => rfl
  | .str, _ => rfl
  | .sl _ s, _ => ⟨none, 0, rfl, by show (0 : Nat) ≤ 0; omega, by show (0 : Nat) ≤ _; omega, fun h => by simp [Sh.zero] at h⟩
  | .pr a b, _ => ⟨a.encZ, b.encZ, fun _ => False, fun _ => False, rfl, fun _ h => h.elim, fun _ h => h.elim, fun _ h _ => h, Rep.zeroF w Z a _, Rep.zeroF w Z b _⟩

/-- a field written -/
theorem upd_field {w : World} {Z : Nat → Prop} : ∀ (k n : Nat) {s : Sh} {o : Nat} {s1 : Sh}, fieldAt s k n = some (o, s1) → ∀ {f : Fl} {x : s.ty} {cs : List Value} {B : Nat → Prop} {f1 : Fl} {x1 : s1.ty} {cs1 : List Value} {B1 : Nat → Prop} {f2 : Fl} {x2 : s.ty},
    Rep w Z s f x cs B → Rep w Z s1 f1 x1 cs1 B1 → (∀ b, B b → B1 b → False) → upd s1 f1 x1 s f x (fpath k n) = some (f2, x2) → Rep w Z s f2 x2 (cs.take o ++ cs1 ++ cs.drop (o + s1.size)) (fun b => B b ∨ B1 b) := by
  intro k
  induction k with
  | zero =>
    intro n s o s1 h f x cs B f1 x1 cs1 B1 f2 x2 hR hR1 hd hu
    have whole : ∀ (s : Sh) (f : Fl) (x : s.ty) (f2 : Fl) (x2 : s.ty), upd s1 f1 x1 s f x [] = some (f2, x2) → ∃ e : s1 = s, f2 = f1 ∧ x2 = e ▸ x1 := by
      intro s f x f2 x2 hu
      have : upd s1 f1 x1 s f x [] = if h : s1 = s then some (f1, h ▸ x1) else none := by cases s <;> rfl
      rw [this] at hu
      split at hu
      · rename_i e
        obtain ⟨e1, e2⟩ := Prod.mk.inj (Option.some.inj hu)
        exact ⟨e, e1.symm, e2.symm⟩
      · cases hu
    match n with
    | 0 => cases s <;> simp [fieldAt] at h
    | 1 =>
      have e : (0, s) = (o, s1) := by cases s <;> exact Option.some.inj h
      obtain ⟨rfl, rfl⟩ := Prod.mk.inj e
      obtain ⟨e1, rfl, rfl⟩ := whole s f x f2 x2 hu
      rw [List.take_zero, List.nil_append, Nat.zero_add, ← hR.len, List.drop_length, List.append_nil]
      exact hR1.mono fun b hb => .inr hb
    | n + 2 =>
      cases s with
      | pr a b =>
        simp only [fieldAt, Option.some.injEq, Prod.mk.injEq] at h
        obtain ⟨rfl, rfl⟩ := h
        have hfp : fpath 0 (n + 2) = [.l] := by simp [fpath]
        rw [hfp] at hu
        have hu : (match upd a f1 x1 a f.l x.1 [] with | some (g, y) => some (Fl.pr g f.r, ((y, x.2) : (Sh.pr a b).ty)) | none => none) = some (f2, x2) := hu
        split at hu
        · rename_i g y hq
          obtain ⟨rfl, rfl⟩ := Prod.mk.inj (Option.some.inj hu)
          obtain ⟨_, rfl, rfl⟩ := whole _ f.l x.1 g y hq
          obtain ⟨c1, c2, B3, B4, rfl, k1, k2, k3, k4, k5⟩ := hR
          refine ⟨cs1, c2, B1, B4, ?_, fun b hb => .inr hb, fun b hb => .inl (k2 b hb), fun b h1 h2 => hd b (k2 b h2) h1, hR1, k5⟩
          rw [List.take_zero, List.nil_append, Nat.zero_add, List.drop_left' k4.len]
        · cases hu
      | unit => simp [fieldAt] at h
      | int _ => simp [fieldAt] at h
      | bool => simp [fieldAt] at h
      | str => simp [fieldAt] at h
      | sl _ _ => simp [fieldAt] at h
  | succ k ih =>
    intro n s o s1 h f x cs B f1 x1 cs1 B1 f2 x2 hR hR1 hd hu
    match n with
    | 0 => cases s <;> simp [fieldAt] at h
    | 1 => cases s <;> simp [fieldAt] at h
    | n + 2 =>
      cases s with
      | pr a b =>
        simp only [fieldAt, Option.map_eq_some_iff] at h
        obtain ⟨⟨o', s'⟩, h1, h2⟩ := h
        obtain ⟨rfl, rfl⟩ := Prod.mk.inj h2
        have hu : upd s' f1 x1 (.pr a b) f x (.r :: fpath k (n + 1)) = some (f2, x2) := hu
        simp only [upd] at hu
        split at hu
        · rename_i g y hq
          obtain ⟨rfl, rfl⟩ := Prod.mk.inj (Option.some.inj hu)
          obtain ⟨c1, c2, B3, B4, rfl, k1, k2, k3, k4, k5⟩ := hR
          have hih := ih (n + 1) h1 k5 hR1 (fun b hb h1 => hd b (k2 b hb) h1) hq
          refine ⟨c1, c2.take o' ++ cs1 ++ c2.drop (o' + s'.size), B3, fun b => B4 b ∨ B1 b, ?_, fun b hb => .inl (k1 b hb), fun b hb => hb.imp (k2 b) id, fun b h1 h2 => h2.elim (k3 b h1) (hd b (k1 b h1)), k4, hih⟩
          have hl := k4.len
          have e1 : (c1 ++ c2).take (a.size + o') = c1 ++ c2.take o' := by rw [← hl, List.take_length_add_append]
          have e2 : (c1 ++ c2).drop (a.size + o' + s'.size) = c2.drop (o' + s'.size) := by rw [Nat.add_assoc, ← hl, List.drop_length_add_append]
          show List.take (a.size + o') (c1 ++ c2) ++ cs1 ++ List.drop (a.size + o' + s'.size) (c1 ++ c2) = _
          rw [e1, e2, List.append_assoc, List.append_assoc, List.append_assoc]
        · cases hu
      | unit => simp [fieldAt] at h
      | int _ => simp [fieldAt] at h
      | bool => simp [fieldAt] at h
      | str => simp [fieldAt] at h
      | sl _ _ => simp [fieldAt] at h

theorem foldl_wrArr : ∀ (vs : List Value) (k off : Nat) (c : Array Value), (vs.zipIdx k).foldl (fun cs (p : Value × Nat) => cs.setIfInBounds (off + p.2) p.1) c = wrArr c (off + k) vs
  | [], _, _, _ => rfl
  | v :: vs, k, off, c => by
    simp only [List.zipIdx_cons, List.foldl_cons, wrArr]
    rw [foldl_wrArr vs (k + 1) off, Nat.add_assoc]

theorem fill_cons {place : Nat → Option (Nat × Nat)} {cells : Array Value} {i : Nat} {v : Value} {rest : List (Nat × Value)} {off size : Nat} {cs1 : List Value} (hpl : place i = some (off, size)) (hv : v.cells.toList = cs1) (hl : cs1.length = size) (hb : off + size ≤ cells.size) :
    Instr.fill place cells ((i, v) :: rest) = Instr.fill place (wrArr cells off cs1) rest := by
  have hs : v.cells.size = size := by rw [← Array.length_toList, hv, hl]
  have hfold : (v.cells.zipIdx.foldl (fun cs (c, j) => cs.setIfInBounds (off + j) c) cells) = wrArr cells off cs1 := by
    rw [← Array.foldl_toList, Array.toList_zipIdx, hv]
    exact foldl_wrArr cs1 0 off cells
  have hc : (decide (v.cells.size ≠ size) || decide (off + v.cells.size > cells.size)) = false := by
    simp [hs]; omega
  simp only [Instr.fill, hpl, hfold]
  simp [hs]
  omega

section
variable {P : Program} {o : Oper} {L L1 : Lay} {st st1 : St} {a : Act} {w w' : World} {R : Nat → Prop} {T : List (Nat × TI)} {rt : St} {out : Out}

theorem run_fillSt {s : Sh} {n : Nat} {fs : List (Bool × Sh)} {place : Nat → Option (Nat × Nat)} (hpl : ∀ k agg s1, k < n → fs[k]? = some (agg, s1) → ∃ o, fieldAt s k n = some (o, s1) ∧ place k = some (o, s1.size)) :
    ∀ (parts : List (Nat × Operand)) {L : Lay} {st : St} {R B : Nat → Prop} {f : Fl} {x : s.ty} {cs : List Value} {f' : Fl} {x' : s.ty} {st' : St}, Rel L st a w R → Rep w L.Z s f x cs B → (∀ b, B b → R b) → fillSt n fs parts st s f x = some (f', x', st') →
      ∃ L' R' B' cs', Sub L' L ∧ Rel L' st' a w R' ∧ Instr.fill place cs.toArray (parts.map fun p => (p.1, a.eval p.2)) = some cs'.toArray ∧ Rep w L.Z s f' x' cs' B' ∧ (∀ b, B' b → R' b) ∧ (∀ b, B' b → B b ∨ ∃ t, L.F t b) ∧ (noH st parts = true → st' = st)
  | [], L, st, R, B, f, x, cs, f', x', st', h, hR, hB, hf => by
    simp only [fillSt, Option.some.injEq, Prod.mk.injEq] at hf
    obtain ⟨rfl, rfl, rfl⟩ := hf
    exact ⟨L, R, B, cs, Sub.refl L, h, rfl, hR, hB, fun b hb => .inl hb, fun _ => rfl⟩
  | (k, y) :: r, L, st, R, B, f, x, cs, f', x', st', h, hR, hB, hf => by
    simp only [fillSt] at hf
    split at hf
    · rename_i agg s1 hk
      split at hf
      · rename_i hkn
        split at hf
        · rename_i f1 x1 st1 hg
          split at hf
          · rename_i f2 x2 hu
            obtain ⟨L1, B1, cs1, g1, g2, g3, g4, g5, g6, g7⟩ := h.grab (h.opnd y) hg
            obtain ⟨off, hfa, hplk⟩ := hpl k agg s1 hkn hk
            have hR2 := upd_field k n hfa hR g5 (fun b hb hb1 => (g3 b hb1).1 (hB b hb)) hu
            obtain ⟨_, _, hle, _, _⟩ := field_at k n hfa f x
            have hlen := hR.len
            obtain ⟨L2, R2, B2, cs2, k1, k2, k3, k4, k5, k6, k7⟩ := run_fillSt hpl r g2 (g1.Z ▸ hR2) (fun b hb => hb.imp (hB b) id) hf
            refine ⟨L2, R2, B2, cs2, k1.trans g1, k2, ?_, g1.Z ▸ k4, k5, fun b hb => ?_, fun hn => ?_⟩
            · rw [List.map_cons, fill_cons hplk (mkV_cells g4 g5.one) g5.len (by simp; omega), wrArr_list _ _ _ (by rw [g5.len]; simp; omega), g5.len]
              exact k3
            · rcases k6 b hb with (hb | hb) | ⟨t, hb⟩
              · exact .inl hb
              · exact .inr (g3 b hb).2
              · exact .inr (g1.F t b hb)
            · simp only [noH, List.all_cons, Bool.and_eq_true, Bool.not_eq_true'] at hn
              have e1 := g7 hn.1
              subst e1
              exact k7 hn.2
          · cases hf
        · cases hf
      · cases hf
    · cases hf

theorem mapM_some {α β : Type} (g : α → Option β) : ∀ (l : List α), (∀ x ∈ l, (g x).isSome = true) → ∃ r : List β, l.mapM g = some r ∧ ∀ (n : Nat) (x : α), l[n]? = some x → r[n]? = g x
  | [], _ => ⟨[], rfl, fun n x h => by simp at h⟩
  | x :: l, h => by
    obtain ⟨r, h1, h2⟩ := mapM_some g l (fun y hy => h y (List.mem_cons_of_mem _ hy))
    obtain ⟨y, hy⟩ := Option.isSome_iff_exists.1 (h x List.mem_cons_self)
    refine ⟨y :: r, by simp [List.mapM_cons, hy, h1], fun n z hz => ?_⟩
    cases n with
    | zero => simp only [List.getElem?_cons_zero, Option.some.injEq] at hz; subst hz; simp [hy]
    | succ n => exact h2 n z hz

theorem pop_build (hT : TabOk P T) (h : Rel L st a w Free) {t : Nat} {parts : Array (Nat × Operand)} (ho : o.op = .build t parts) (hp : pop T rt st o = some out) : out.c = true ∧ Goes P o a w L out.st out.pv ∧ (out.cl = true → out.st = st) := by
  unfold pop at hp
  rw [ho] at hp
  simp only at hp
  split at hp
  · rename_i i hi
    have hTt := hT t i hi
    split at hp
    · rename_i hag
      split at hp
      · rename_i f x st' hf
        obtain rfl := (Option.some.inj hp)
        obtain ⟨ti, z, q1, q2, q3, q4, q5⟩ := hTt.info
        obtain ⟨fs, u1, u2, u3⟩ := hTt.str hag
        obtain ⟨places, m1, m2⟩ := mapM_some (fun f : Field => (P.info? f.type).map fun i => (f.offset, i.size)) fs.toList (fun fd hfd => by
          obtain ⟨n, hn⟩ := List.mem_iff_getElem?.1 hfd
          have hlt : n < fs.size := by rw [← Array.length_toList]; exact (List.getElem?_eq_some_iff.1 hn).1
          obtain ⟨fd', agg1, s1, of, fi, v1, v2, v3, v4, v5, v6, v7, v8, v9, v10⟩ := (u3 n (by omega)).ex
          rw [Array.getElem?_toList, v1] at hn
          obtain rfl := Option.some.inj hn
          simp [v5])
        have hpl : ∀ k agg s1, k < i.nf → i.fs[k]? = some (agg, s1) → ∃ o, fieldAt i.sh k i.nf = some (o, s1) ∧ (places.toArray[·]?) k = some (o, s1.size) := by
          intro k agg s1 hk hks
          obtain ⟨fd', agg1, s2, of, fi, v1, v2, v3, v4, v5, v6, v7, v8, v9, v10⟩ := (u3 k hk).ex
          rw [hks] at v2
          obtain ⟨rfl, rfl⟩ := Prod.mk.inj (Option.some.inj v2)
          refine ⟨of, v3, ?_⟩
          have := m2 k fd' (by rw [Array.getElem?_toList, v1])
          simp only [List.getElem?_toArray]
          rw [this]
          simp [v5, v4, v6]
        obtain ⟨L', R', B', cs', k1, k2, k3, k4, k5, k6, k7⟩ := run_fillSt (a := a) (w := w) (place := (places.toArray[·]?)) hpl parts.toList h (Rep.zero w L.Z i.sh Free) (fun b hb => hb) hf
        have hb : P.built t ((parts.map fun (i, x) => (i, a.eval x)).toList) = some cs'.toArray := by
          unfold Program.built
          simp only [q1, u1, q4, m1]
          rw [Array.toList_map, show z.cells = i.sh.encZ.toArray by rw [← q5]]
          exact k3
        have hrun : (execOp a.eval o).run P w = .ok (.value (.agg cs'.toArray)) w := by
          simp [execOp, ho, run_build (P := P) w t _ _ hb]
        refine ⟨rfl, ?_, fun hcl => k7 hcl⟩
        by_cases hpf : (i.sh.plain || Fl.allfz i.sh f) = true
        · rw [if_pos hpf]
          refine goes_o hrun (Stp.sub k1 w) k2 rfl ⟨cs', rfl, ?_⟩
          simp only [Bool.or_eq_true] at hpf
          rw [k1.Z]
          rcases hpf with hpf | hpf
          · exact k4.plain hpf
          · exact k4.allfz hpf
        · rw [if_neg hpf]
          refine goes_r (cs := cs') (ad := none) (B := B') (Fd := B') hrun (Stp.sub k1 w) k2 ⟨rfl, (fun e => by cases e), rfl⟩ (fun _ h => h) (fun A hA => by cases hA) (k1.Z ▸ k4) (fun b hb => ?_) (fun b hb => ?_)
          · exact ⟨(k2.rlt b (k5 b hb)).1, (k2.rlt b (k5 b hb)).2, fun t ht => k2.rdj t b ht (k5 b hb)⟩
          · rcases k6 b hb with hb | hb
            · exact hb.elim
            · exact .inl hb
      · cases hp
    · cases hp
  · cases hp

theorem run_fillRow {agg : Bool} {s : Sh} {g : Fl} (hg : g = .fz ∨ g = .own) (hsz : 0 < s.size) :
    ∀ (parts : List (Nat × Operand)) {L : Lay} {st : St} {R : Nat → Prop} {Bs : Nat → Nat → Prop} {xs : List s.ty} {cs : Array Value} {rows : Nat → List Value} {xs' : List s.ty} {st' : St}, Rel L st a w R → cs.size = xs.length * s.size →
      (∀ i, i < xs.length → (rows i).length = s.size ∧ (∀ j, j < s.size → cs[i * s.size + j]? = (rows i)[j]?) ∧ (∀ b, Bs i b → R b) ∧ Rep w L.Z s g (xs.getD i s.zero) (rows i) (Bs i)) →
      (∀ i j b, i < xs.length → j < xs.length → i ≠ j → Bs i b → Bs j b → False) → fillRow agg s g parts st xs = some (xs', st') →
      ∃ (L' : Lay) (R' : Nat → Prop) (Bs' : Nat → Nat → Prop) (cs' : Array Value) (rows' : Nat → List Value), Sub L' L ∧ Rel L' st' a w R' ∧ Instr.fill (fun i => some (i * s.size, s.size)) cs (parts.map fun p => (p.1, a.eval p.2)) = some cs' ∧ xs'.length = xs.length ∧ cs'.size = xs.length * s.size ∧
        (∀ i, i < xs.length → (rows' i).length = s.size ∧ (∀ j, j < s.size → cs'[i * s.size + j]? = (rows' i)[j]?) ∧ (∀ b, Bs' i b → R' b ∧ (Bs i b ∨ ∃ t, L.F t b)) ∧ Rep w L.Z s g (xs'.getD i s.zero) (rows' i) (Bs' i)) ∧
        (∀ i j b, i < xs.length → j < xs.length → i ≠ j → Bs' i b → Bs' j b → False) ∧ (noH st parts = true → st' = st)
  | [], L, st, R, Bs, xs, cs, rows, xs', st', h, hc, hr, hd, hf => by
    simp only [fillRow, Option.some.injEq, Prod.mk.injEq] at hf
    obtain ⟨rfl, rfl⟩ := hf
    exact ⟨L, R, Bs, cs, rows, Sub.refl L, h, rfl, rfl, hc, fun i hi => ⟨(hr i hi).1, (hr i hi).2.1, fun b hb => ⟨(hr i hi).2.2.1 b hb, .inl hb⟩, (hr i hi).2.2.2⟩, hd, fun _ => rfl⟩
  | (k, y) :: r, L, st, R, Bs, xs, cs, rows, xs', st', h, hc, hr, hd, hf => by
    simp only [fillRow] at hf
    split at hf
    · rename_i f1 x1 st1 hgr
      split at hf
      · rename_i hk
        obtain ⟨hk, hfl⟩ := hk
        obtain ⟨L1, B1, cs1, g1, g2, g3, g4, g5, g6, g7⟩ := h.grab (h.opnd y) hgr
        -- the element as it lies in the row
        have hel : ∃ B1' : Nat → Prop, (∀ b, B1' b → B1 b) ∧ Rep w L.Z s g x1 cs1 B1' := by
          simp only [Bool.or_eq_true] at hfl
          rcases hfl with hfl | hfl
          · exact ⟨B1, fun _ h => h, g5.sub hfl⟩
          · have hv := h.opnd y
            cases hpv : ref st y with
            | emp =>
              rw [hpv] at hgr hv
              simp only [V.grab] at hgr
              split at hgr
              · rename_i hc
                obtain ⟨_, e2⟩ := Prod.mk.inj (Option.some.inj hgr)
                obtain ⟨rfl, _⟩ := Prod.mk.inj e2
                obtain ⟨A, hv⟩ := hv
                obtain ⟨rfl, hsl⟩ := hc
                have : cs1 = [.slice A 0 0] := by rw [← hv]; simpa [mkV] using g4
                subst this
                cases s with
                | sl e s0 =>
                  refine ⟨Free, fun _ h => h.elim, ?_⟩
                  rcases hg with rfl | rfl
                  · exact ⟨A, 0, rfl, by show (0 : Nat) ≤ 0; omega, by show (0 : Nat) ≤ _; omega, fun h => by simp [Sh.zero] at h⟩
                  · exact .inl ⟨A, rfl, rfl⟩
                | unit => cases hsl
                | int _ => cases hsl
                | bool => cases hsl
                | str => cases hsl
                | pr _ _ => cases hsl
              · cases hgr
            | _ => rw [hpv] at hfl; cases hfl
        obtain ⟨B1', hB1, hel⟩ := hel
        have hfit : k * s.size + s.size ≤ cs.size := by rw [hc, ← Nat.succ_mul]; exact Nat.mul_le_mul_right _ hk
        have A1 : ∀ i, i < (xs.set k x1).length → ((fun i => if i = k then cs1 else rows i) i).length = s.size ∧ (∀ j, j < s.size → (wrArr cs (k * s.size) cs1)[i * s.size + j]? = ((fun i => if i = k then cs1 else rows i) i)[j]?) ∧ (∀ b, (fun i => if i = k then B1' else Bs i) i b → R b ∨ B1 b) ∧ Rep w L1.Z s g ((xs.set k x1).getD i s.zero) ((fun i => if i = k then cs1 else rows i) i) ((fun i => if i = k then B1' else Bs i) i) := by
          intro i hi
          rw [List.length_set] at hi
          rw [g1.Z]
          by_cases he : i = k
          · subst he
            simp only [if_true]
            refine ⟨g5.len, fun j hj => wrArr_in _ _ _ _ (by rw [g5.len]; exact hfit) (by rw [g5.len]; exact hj), fun b hb => .inr (hB1 b hb), ?_⟩
            have : (xs.set i x1).getD i s.zero = x1 := by simp [List.getD_eq_getElem?_getD, hi]
            rw [this]; exact hel
          · simp only [he, if_false]
            obtain ⟨q1, q2, q3, q4⟩ := hr i hi
            refine ⟨q1, fun j hj => ?_, fun b hb => .inl (q3 b hb), ?_⟩
            · rw [← q2 j hj]
              refine wrArr_out _ _ _ _ ?_
              rw [g5.len]
              rcases Nat.lt_or_gt_of_ne he with hlt | hlt
              · left
                exact Nat.lt_of_lt_of_le (Nat.add_lt_add_left hj _) (by rw [← Nat.succ_mul]; exact Nat.mul_le_mul_right _ hlt)
              · right
                have : k * s.size + s.size ≤ i * s.size := by rw [← Nat.succ_mul]; exact Nat.mul_le_mul_right _ hlt
                omega
            · have : (xs.set k x1).getD i s.zero = xs.getD i s.zero := by
                simp only [List.getD_eq_getElem?_getD]
                rw [List.getElem?_set_ne (by omega)]
              rw [this]; exact q4
        have A2 : ∀ i j b, i < (xs.set k x1).length → j < (xs.set k x1).length → i ≠ j → (fun i => if i = k then B1' else Bs i) i b → (fun i => if i = k then B1' else Bs i) j b → False := by
          intro i j b hi hj hij hb1 hb2
          rw [List.length_set] at hi hj
          split at hb1 <;> split at hb2
          · omega
          · exact (g3 b (hB1 b hb1)).1 ((hr j hj).2.2.1 b hb2)
          · exact (g3 b (hB1 b hb2)).1 ((hr i hi).2.2.1 b hb1)
          · exact hd i j b hi hj hij hb1 hb2
        obtain ⟨L2, R2, Bs2, cs2, rows2, k1, k2, k3, k4, k5, k6, k7, k8⟩ := run_fillRow hg hsz r (Bs := fun i => if i = k then B1' else Bs i) (cs := wrArr cs (k * s.size) cs1) (rows := fun i => if i = k then cs1 else rows i) (xs := xs.set k x1) g2 (by rw [wrArr_size, hc, List.length_set]) A1 A2 hf
        rw [List.length_set] at k4 k5 k6 k7
        refine ⟨L2, R2, Bs2, cs2, rows2, k1.trans g1, k2, ?_, k4, k5, fun i hi => ?_, k7, fun hn => ?_⟩
        · rw [List.map_cons, fill_cons (off := k * s.size) (size := s.size) rfl (mkV_cells g4 g5.one) g5.len hfit]
          exact k3
        · obtain ⟨q1, q2, q3, q4⟩ := k6 i hi
          refine ⟨q1, q2, fun b hb => ⟨(q3 b hb).1, ?_⟩, g1.Z ▸ q4⟩
          rcases (q3 b hb).2 with hb | ⟨t, hb⟩
          · split at hb
            · exact .inr (g3 b (hB1 b hb)).2
            · exact .inl hb
          · exact .inr (g1.F t b hb)
        · simp only [noH, List.all_cons, Bool.and_eq_true, Bool.not_eq_true'] at hn
          have e1 := g7 hn.1
          subst e1
          exact k8 hn.2
      · cases hf
    · cases hf

theorem pop_buildSlice (hT : TabOk P T) (h : Rel L st a w Free) {t n : Nat} {parts : Array (Nat × Operand)} (ho : o.op = .buildSlice t n parts) (hp : pop T rt st o = some out) : out.c = true ∧ Goes P o a w L out.st out.pv ∧ (out.cl = true → out.st = st) := by
  unfold pop at hp
  rw [ho] at hp
  simp only at hp
  split at hp
  · split at hp
    · rename_i e s b nf fs cm hi0
      obtain ⟨hu, ti, z, i1, i2, i3, i4, i5⟩ := (hT t _ hi0).sl e s rfl rfl
      split at hp
      · rename_i hem
        obtain rfl := (Option.some.inj hp)
        have hem : parts = #[] := by simpa [Array.isEmpty_iff] using hem
        subst hem
        refine ⟨rfl, goes_o (L1 := L) (v := .slice (some ⟨w.heap.size, 0, none⟩) 0 0) (w' := w.alloc (.cells #[] e)) ?_ (Stp.ext (Ext.alloc w _)) (h.grow (Ext.alloc w _)) rfl ⟨_, rfl⟩, fun _ => rfl⟩
        simp [execOp, ho, Instr.buildSlice, run_underlying hu, sizeOf, typeInfo, i1, Instr.fill, newRow, show Array.range 0 = #[] from rfl]
      · cases hp
    · cases hp
  · rename_i hn0
    have hn0 : n ≠ 0 := fun e => hn0 e
    split at hp
    · rename_i e s b nf fs cm hi0
      obtain ⟨hu, ti, z, i1, i2, i3, i4, i5⟩ := (hT t _ hi0).sl e s rfl rfl
      split at hp
      · rename_i i hi
        split at hp
        · rename_i hst
          obtain ⟨rfl, hsmall⟩ := hst
          split at hp
          · rename_i xs st' hf
            obtain rfl := (Option.some.inj hp)
            have hzl := (Rep.zero w L.Z i.sh Free).len
            have hg : (if noH st parts.toList then Fl.fz else Fl.own) = .fz ∨ (if noH st parts.toList then Fl.fz else Fl.own) = .own := by split <;> simp
            obtain ⟨L', R', Bs', cs', rows', k1, k2, k3, k4, k5, k6, k7, k8⟩ := run_fillRow (a := a) (w := w) hg i5 parts.toList (Bs := fun _ _ => False) (cs := madeCells z.cells (n * i.sh.size)) (rows := fun _ => i.sh.encZ) h (by rw [size_madeCells, List.length_replicate]) (fun j hj => by
              rw [List.length_replicate] at hj
              refine ⟨hzl, fun q hq => zero_cells i4 hj hq hzl, fun b hb => hb.elim, ?_⟩
              have : (List.replicate n i.sh.zero).getD j i.sh.zero = i.sh.zero := by simp [List.getD_eq_getElem?_getD, hj]
              rw [this]
              rcases hg with e | e <;> rw [e]
              · exact Rep.zeroF _ _ _ _
              · exact Rep.zero _ _ _ _) (fun _ _ _ _ _ _ hb => hb.elim) hf
            rw [List.length_replicate] at k4 k5 k6 k7
            refine ⟨rfl, ?_, fun hcl => k8 hcl⟩
            have hpos : ¬ n * ti.size = 0 := by rw [i2]; intro e; rcases Nat.mul_eq_zero.1 e with e | e <;> omega
            have hr := run_buildSlice (P := P) w t e n (parts.map fun (i, x) => (i, a.eval x)) cs' ti z hu i1 i3 (by rw [i2]; omega) hpos (by rw [i2, Array.toList_map]; exact k3)
            have hold : ∀ j b, j < n → Bs' j b → b < w.heap.size ∧ ¬ L'.Z b ∧ ∀ t, ¬ L'.F t b := fun j b hj hb => by
              have hR := ((k6 j hj).2.2.1 b hb).1
              exact ⟨(k2.rlt b hR).1, (k2.rlt b hR).2, fun t ht => k2.rdj t b ht hR⟩
            refine goes_r (cs := [.slice (some ⟨w.heap.size, 0, none⟩) n n]) (ad := none) (B := fun b => (∃ j, j < n ∧ Bs' j b) ∨ b = w.heap.size) (Fd := fun b => (∃ j, j < n ∧ Bs' j b) ∨ b = w.heap.size) (v := .slice (some ⟨w.heap.size, 0, none⟩) n n) (w' := w.alloc (.cells cs' e)) ?_ ((Stp.sub k1 w).trans (Stp.ext (Ext.alloc w _))) (k2.grow (Ext.alloc w _)) ⟨rfl, fun _ => rfl, rfl⟩ (fun _ h => h) (fun A hA => by cases hA) ?_ (fun b hb => ?_) (fun b hb => ?_)
            · simp [execOp, ho, hr]
            · have row : ∀ f0 : Fl, (∀ j, j < n → Rep w L.Z i.sh f0 (xs.getD j i.sh.zero) (rows' j) (Bs' j)) → OwnR (w.alloc (.cells cs' e)) e i.sh.size (fun x c B' => Rep (w.alloc (.cells cs' e)) L'.Z i.sh f0 x c B') i.sh.zero xs [.slice (some ⟨w.heap.size, 0, none⟩) n n] (fun b => (∃ j, j < n ∧ Bs' j b) ∨ b = w.heap.size) := by
                intro f0 hrow
                refine .inr ⟨w.heap.size, n, cs', rows', Bs', by rw [k4], heap_alloc_new w _, by omega, ?_, k5, .inr rfl, fun j hj => ?_, fun a b c h1 h2 => k7 a b c (by omega) (by omega)⟩
                · have : n ≤ n * i.sh.size := Nat.le_mul_of_pos_right _ i5
                  simp only [maxLen]; omega
                · rw [k4] at hj
                  obtain ⟨q1, q2, q3, _⟩ := k6 j hj
                  refine ⟨q1, q2, fun b hb => ⟨.inl ⟨j, hj, hb⟩, fun e => ?_⟩, ?_⟩
                  · have := (hold j b hj hb).1; omega
                  · rw [k1.Z]
                    exact (hrow j hj).frame (fun _ h => h) (fun b hb => heap_alloc_old w _ b (by rcases hb with hb | hb; exact h.zlt b hb; exact (hold j b hj hb).1))
              by_cases hno : noH st parts.toList = true
              · simp only [hno, if_true, Bool.not_true, Bool.or_false] at k6 ⊢
                by_cases hpl : i.sh.plain = true
                · rw [if_pos hpl]
                  exact row .own fun j hj => (k6 j hj).2.2.2.plain hpl
                · rw [if_neg hpl]
                  exact row .fz fun j hj => (k6 j hj).2.2.2
              · have hno : noH st parts.toList = false := by simpa using hno
                simp only [hno, Bool.false_eq_true, if_false, Bool.not_false, Bool.or_true, if_true] at k6 ⊢
                exact row .own fun j hj => (k6 j hj).2.2.2
            · rcases hb with ⟨j, hj, hb⟩ | hb
              · obtain ⟨q1, q2, q3⟩ := hold j b hj hb
                exact ⟨by simp; omega, q2, q3⟩
              · subst hb
                refine ⟨by simp, fun hz => ?_, fun t ht => ?_⟩
                · have := k2.zlt _ hz; omega
                · have := (k2.flt _ _ ht).1; omega
            · rcases hb with ⟨j, hj, hb⟩ | hb
              · rcases ((k6 j hj).2.2.1 b hb).2 with hb | hb
                · exact hb.elim
                · exact .inl hb
              · exact .inr (by omega)
          · cases hp
        · cases hp
      · cases hp
    · cases hp
end
end Go.Proofs.Yteeklekfafedcaa.V

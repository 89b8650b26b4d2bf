/- The two regions of slices.Repeat that copy. No condition. -/
import Derived.Test.YtmechjnfeidnkaaR1
import Derived.Orders
set_option linter.unusedVariables false
set_option linter.unnecessarySimpa false
set_option linter.unusedSimpArgs false
namespace Go.Proofs.Ytmechjnfeidnkaa.V
open Go Go.RowKit
section
variable {P : Program} {T : List (Nat × TI)}
abbrev D0 : PV := .dead
/-- the state of slices.Repeat's loop -/
def rst (e : TypeId) (xs : List Int) (i : Int) : St := [D0, D0, D0, D0, D0, D0, D0, .root (.val false) (.sl e (.int .i64)) .own xs, .v false (.int .i64) i, D0, D0, D0, D0, D0, D0, D0, D0, D0, D0, D0, D0, D0, D0, D0, D0, D0, D0, D0, D0, D0, D0, D0, D0, D0, D0, D0, D0, D0, D0, D0, D0, D0, D0, D0, D0, D0, D0, D0]
def rst0 (e : TypeId) (ys xs : List Int) : St := [.v false (.sl e (.int .i64)) ys, D0, D0, D0, D0, D0, D0, .root (.val false) (.sl e (.int .i64)) .own xs, D0, D0, D0, D0, D0, D0, D0, D0, D0, D0, D0, D0, D0, D0, D0, D0, D0, D0, D0, D0, D0, D0, D0, D0, D0, D0, D0, D0, D0, D0, D0, D0, D0, D0, D0, D0, D0, D0, D0, D0]
def lst : Nat → Array Bool
  | 0 => Array.replicate 10 false
  | i + 1 => (lst i).setIfInBounds i true
def takeB (ops : Array Oper) (i : Nat) : Bool := Region.free .any ops (lst i) i && (Region.ready .any ops (lst i)).contains i
def repOk (ops : Array Oper) : Bool := Region.noSelect ops && (takeB ops 0 && takeB ops 1 && takeB ops 2 && takeB ops 3 && takeB ops 4 && takeB ops 5 && takeB ops 6 && takeB ops 8 && takeB ops 9) && (Region.ready .any ops (lst 7) == [7]) && (Region.ready .any ops (lst 10) == [])
theorem ev_put {a : Act} {d t : Nat} {v : Value} (h : d < a.tmps.size) : (a.put (some d) v).eval (.tmp t) = if t = d then v else a.eval (.tmp t) := getD_put h
theorem sz_put {a : Act} {d : Nat} {v : Value} : (a.put (some d) v).tmps.size = a.tmps.size := Array.size_setIfInBounds ..
theorem wanted_none {ops : Array Oper} {o : Oper} {a : Act} (h : o.guard = none) : Region.wanted o (yielded ops a.tmps) = true := by unfold Region.wanted; rw [h]
theorem take_step {ops : Array Oper} {Q : Exit → Act → World → Prop} (hQ : ∀ c a w, ¬ Q (.panic c) a w) {i : Nat} {o : Oper} {d : Tmp} {v : Value} {fuel : Nat} {a : Act} {w : World} (ho : ops[i]? = some o) (hs : Region.noSelect ops = true) (ht : takeB ops i = true) (hd : o.dst = some d) (hg : o.guard = none)
    (hy : ∀ w, (execOp a.eval o).run P w = .ok (.value v) w) (h : wpAny P .any ops Q fuel (lst (i + 1)) (a.put (some d) v) w) : wpAny P .any ops Q (fuel + 1) (lst i) a w := by
  simp only [takeB, Bool.and_eq_true] at ht
  refine wpAny_take ho hs ht.1 ht.2 (fun c a w hq => absurd hq (hQ _ _ _)) (.inl ⟨wanted_none hg, hy⟩) ?_
  rw [hd]
  exact h
set_option maxRecDepth 20000 in
set_option maxHeartbeats 1000000 in
theorem VW.rep9 (hT : TabOk P T) (hm : P.follows .mixedOrders = true) {rid : Nat} {o0 o1 o2 o3 o4 o5 o6 o7 o8 o9 : Oper} {t t3 e : TypeId} {bb nf : Nat} {fs : List (Bool × Sh)} {cm : Bool} {ats : Array TypeId} {xs : List Int} {i : Nat} {Q : Exit → St → Prop}
    (ht : tget T t = some ⟨.sl e (.int .i64), false, bb, nf, fs, cm⟩) (hok : repOk #[o0, o1, o2, o3, o4, o5, o6, o7, o8, o9] = true)
    (e0 : o0.op = .move (.tmp 8)) (d0 : o0.dst = some 38) (q0 : o0.guard = none) (e1 : o1.op = .move (.tmp 7)) (d1 : o1.dst = some 39) (q1 : o1.guard = none)
    (e2 : o2.op = .move (.tmp 8)) (d2 : o2.dst = some 40) (q2 : o2.guard = none) (e3 : o3.op = .slice t (.tmp 39) (some (.tmp 40)) none none) (d3 : o3.dst = some 41) (q3 : o3.guard = none)
    (e4 : o4.op = .move (.tmp 7)) (d4 : o4.dst = some 42) (q4 : o4.guard = none) (e5 : o5.op = .move (.tmp 8)) (d5 : o5.dst = some 43) (q5 : o5.guard = none)
    (e6 : o6.op = .slice t (.tmp 42) none (some (.tmp 43)) none) (d6 : o6.dst = some 44) (q6 : o6.guard = none)
    (e7 : o7.op = .call ⟨.builtin .copy, #[.tmp 41, .tmp 44], ats⟩) (e7' : ats = #[t, t]) (d7 : o7.dst = some 45) (q7 : o7.guard = none)
    (e8 : o8.op = .binOp .add t3 (.tmp 38) (.tmp 45) t3) (d8 : o8.dst = some 46) (q8 : o8.guard = none) (e9 : o9.op = .assign (.tmp 46)) (d9 : o9.dst = some 8) (q9 : o9.guard = none)
    (p1 : ∀ (xs : List Int) (i : Int), V.put (rst e xs i) 7 [] (.sl e (.int .i64)) .junk xs hitS = some ((rst e xs i).set 7 (.root (.val false) (.sl e (.int .i64)) .junk xs)))
    (p2 : ∀ (xs ys : List Int) (i : Int), V.put ((rst e xs i).set 7 (.root (.val false) (.sl e (.int .i64)) .junk xs)) 7 [] (.sl e (.int .i64)) .own ys hitS = some (rst e ys i))
    (hl : xs.length ≤ 2000000) (hi0 : 1 ≤ i) (hi : i < xs.length) (hQ : ∀ xs' : List Int, xs'.length = xs.length → Q .normal (rst e xs' ((i + Nat.min i (xs.length - i) : Nat) : Int))) : VW P (.region rid #[o0, o1, o2, o3, o4, o5, o6, o7, o8, o9] true) (rst e xs i) Q := by
  intro L a w0 hr0
  obtain ⟨hu, ti, z, i1, i2, i3, i4, hpos⟩ := (hT t _ ht).sl e (.int .i64) rfl rfl
  have i2 : ti.size = 1 := i2
  refine wp_mono (Q := fun e a' w' => match e with | .normal => ∃ L' st', Stp L L' w0 w' ∧ Rel L' st' a' w' Free ∧ Q .normal st' | _ => False) ?_ (fun e a' w' hq => ?_)
  case refine_2 =>
    cases e with
    | normal => exact hq
    | _ => exact hq.elim
  refine wp_region_any hm ?_
  have hx : Ext w0 { w0 with drawn := w0.drawn + 1 } := Ext.drew w0
  have hr := hr0.grow hx
  have hst := Stp.ext (L := L) hx
  generalize hw : ({ w0 with drawn := w0.drawn + 1 } : World) = w at hr hst ⊢
  clear hw hx
  have hg : (rst e xs i).at 7 = .root (.val false) (.sl e (.int .i64)) .own xs := rfl
  obtain ⟨rt1, B0, rt2, rt3, rt4⟩ := hr.root hg
  have hC : L.C 7 = [a.tmps.getD 7 undef] := by simpa [mkV] using rt1.1
  rw [hC] at rt4
  obtain ⟨A, c, hval, hcap, _⟩ := OwnR.take rt4
  have hcap : xs.length ≤ c := hcap
  have hsz : a.tmps.size = 48 := hr.size
  have E7 : a.eval (.tmp 7) = .slice A xs.length c := hval
  have E8 : a.eval (.tmp 8) = .int .i64 (i : Int) := by
    have := hr.orep (t := 8) (by rfl)
    exact this.int
  simp only [repOk, Bool.and_eq_true, beq_iff_eq] at hok
  obtain ⟨⟨⟨hs, ⟨⟨⟨⟨⟨⟨⟨⟨k0, k1⟩, k2⟩, k3⟩, k4⟩, k5⟩, k6⟩, k8⟩, k9⟩⟩, k7⟩, k10⟩ := hok
  have hz : ∀ w, (sizeOf e).run P w = .ok 1 w := fun w => by rw [run_size i1, i2]
  show wpAny P .any _ _ 10 (lst 0) a w
  refine take_step (fun _ _ _ h => h) (i := 0) (o := o0) (v := .int .i64 (i : Int)) rfl hs k0 d0 q0 (fun w => by simp [execOp, e0, ev_put, sz_put, hsz, E7, E8]) ?_
  refine take_step (fun _ _ _ h => h) (i := 1) (o := o1) (v := .slice A xs.length c) rfl hs k1 d1 q1 (fun w => by simp [execOp, e1, ev_put, sz_put, hsz, E7, E8]) ?_
  refine take_step (fun _ _ _ h => h) (i := 2) (o := o2) (v := .int .i64 (i : Int)) rfl hs k2 d2 q2 (fun w => by simp [execOp, e2, ev_put, sz_put, hsz, E7, E8]) ?_
  refine take_step (fun _ _ _ h => h) (i := 3) (o := o3) (v := sliced A i xs.length c 1) rfl hs k3 d3 q3 (fun w => by simp [execOp, e3, ev_put, sz_put, hsz, E7, E8, run_slice_gen (P := P) hu hz A xs.length c (some (.int .i64 (i : Int))) none i xs.length (.inr ⟨_, rfl⟩) (.inl ⟨rfl, rfl⟩) (Nat.le_of_lt hi) hcap]) ?_
  refine take_step (fun _ _ _ h => h) (i := 4) (o := o4) (v := .slice A xs.length c) rfl hs k4 d4 q4 (fun w => by simp [execOp, e4, ev_put, sz_put, hsz, E7, E8]) ?_
  refine take_step (fun _ _ _ h => h) (i := 5) (o := o5) (v := .int .i64 (i : Int)) rfl hs k5 d5 q5 (fun w => by simp [execOp, e5, ev_put, sz_put, hsz, E7, E8]) ?_
  refine take_step (fun _ _ _ h => h) (i := 6) (o := o6) (v := sliced A 0 i c 1) rfl hs k6 d6 q6 (fun w => by simp [execOp, e6, ev_put, sz_put, hsz, E7, E8, run_slice_gen (P := P) hu hz A xs.length c none (some (.int .i64 (i : Int))) 0 i (.inl ⟨rfl, rfl⟩) (.inr ⟨_, rfl⟩) (Nat.zero_le _) (by omega)]) ?_
  have r0 := hr.setO (d := 38) (v := .int .i64 (i : Int)) rfl (pv := .dead) rfl trivial
  have r1 := r0.setO (d := 39) (v := .slice A xs.length c) rfl (pv := .dead) rfl trivial
  have r2 := r1.setO (d := 40) (v := .int .i64 (i : Int)) rfl (pv := .dead) rfl trivial
  have r3 := r2.setO (d := 41) (v := sliced A i xs.length c 1) rfl (pv := .dead) rfl trivial
  have r4 := r3.setO (d := 42) (v := .slice A xs.length c) rfl (pv := .dead) rfl trivial
  have r5 := r4.setO (d := 43) (v := .int .i64 (i : Int)) rfl (pv := .dead) rfl trivial
  have r6 := r5.setO (d := 44) (v := sliced A 0 i c 1) rfl (pv := .dead) rfl trivial
  have sz6 : (((((((a.put (some 38) (.int .i64 (i : Int))).put (some 39) (.slice A xs.length c)).put (some 40) (.int .i64 (i : Int))).put (some 41) (sliced A i xs.length c 1)).put (some 42) (.slice A xs.length c)).put (some 43) (.int .i64 (i : Int))).put (some 44) (sliced A 0 i c 1)).tmps.size = 48 := by simp [sz_put, hsz]
  have v38 : (((((((a.put (some 38) (.int .i64 (i : Int))).put (some 39) (.slice A xs.length c)).put (some 40) (.int .i64 (i : Int))).put (some 41) (sliced A i xs.length c 1)).put (some 42) (.slice A xs.length c)).put (some 43) (.int .i64 (i : Int))).put (some 44) (sliced A 0 i c 1)).eval (.tmp 38) = .int .i64 (i : Int) := by simp [ev_put, sz_put, hsz]
  have v41 : (((((((a.put (some 38) (.int .i64 (i : Int))).put (some 39) (.slice A xs.length c)).put (some 40) (.int .i64 (i : Int))).put (some 41) (sliced A i xs.length c 1)).put (some 42) (.slice A xs.length c)).put (some 43) (.int .i64 (i : Int))).put (some 44) (sliced A 0 i c 1)).eval (.tmp 41) = sliced A i xs.length c 1 := by simp [ev_put, sz_put, hsz]
  have v44 : (((((((a.put (some 38) (.int .i64 (i : Int))).put (some 39) (.slice A xs.length c)).put (some 40) (.int .i64 (i : Int))).put (some 41) (sliced A i xs.length c 1)).put (some 42) (.slice A xs.length c)).put (some 43) (.int .i64 (i : Int))).put (some 44) (sliced A 0 i c 1)).eval (.tmp 44) = sliced A 0 i c 1 := by simp [ev_put, sz_put, hsz]
  generalize (((((((a.put (some 38) (.int .i64 (i : Int))).put (some 39) (.slice A xs.length c)).put (some 40) (.int .i64 (i : Int))).put (some 41) (sliced A i xs.length c 1)).put (some 42) (.slice A xs.length c)).put (some 43) (.int .i64 (i : Int))).put (some 44) (sliced A 0 i c 1)) = a6 at r6 sz6 v38 v41 v44 ⊢
  clear r0 r1 r2 r3 r4 r5
  generalize hk : Nat.min i (xs.length - i) = k at hQ
  have hk1 : 1 ≤ k ∧ k ≤ i ∧ i + k ≤ xs.length := by
    have : k = min i (xs.length - i) := hk.symm
    omega
  have hyl : (xs.take k).length = k := by simp; omega
  have go : ∀ B : Nat → Prop, Rep w L.Z (.sl e (.int .i64)) .own xs [a.tmps.getD 7 undef] B → ∃ w', (Builtin.copy_ #[t, t] o7.type #[sliced A i xs.length c 1, sliced A 0 i c 1]).run P w = .ok (goInt k) w' ∧ ExtF w w' B ∧ w'.heap.size = w.heap.size ∧ Rep w' L.Z (.sl e (.int .i64)) .own (xs.take i ++ xs.take k ++ xs.drop (i + k)) [a.tmps.getD 7 undef] B := fun B hB => by
    obtain ⟨g1, g2⟩ := run_headOwn (P := P) hk1.1 hk1.2.1 hi hB hval
    have := run_copyInts (P := P) (ats := #[t, t]) (ty := o7.type) (ys := xs.take k) (i := i) hu rfl i1 i2 hB hval (by rw [hyl]; omega) (by rw [hyl]; omega) (by rw [hyl]; exact hk) g1 (by rw [hyl]; exact g2)
    rw [hyl] at this
    exact this
  obtain ⟨w1, c1, c2, c3, c4⟩ := go B0 rt4
  have x7 : (execOp a6.eval o7).run P w = .ok (.value (goInt k)) w1 := by
    subst e7'
    have hb : ∀ cs u v, builtin .copy #[t, t] o7.type cs #[u, v] = (do pure (.value (← Builtin.copy_ #[t, t] o7.type #[u, v]))) := fun cs u v => rfl
    simp [execOp, e7, resolve, invoke, v41, v44, hb, c1]
  refine wpAny_all (rs := [7]) k7 (by simp) (fun j hj => ?_)
  obtain rfl : j = 7 := by simpa using hj
  unfold wpOp
  show (if Region.wanted o7 _ then o7.wp P a6 w _ _ ∨ _ else _)
  rw [wanted_none q7, if_pos rfl]
  refine .inl ?_
  unfold Oper.wp
  rw [x7, Oper.upon_value, d7]
  have r6 : Rel L (rst e xs i) a6 w Free := r6
  obtain ⟨L', s1, r7⟩ := r6.turn hg (p1 _ _) (p2 _ (xs.take i ++ xs.take k ++ xs.drop (i + k)) _) (w' := w1) fun B hB hBF => by
    rw [hC] at hB ⊢
    obtain ⟨w2, y1, y2, y3, y4⟩ := go B hB
    rw [c1] at y1
    obtain rfl : w1 = w2 := by injection y1
    exact ⟨y2, y4⟩
  have r8 := r7.setO (d := 45) (v := goInt k) rfl (pv := .dead) rfl trivial
  have sz7 : (a6.put (some 45) (goInt k)).tmps.size = 48 := by simp [sz_put, sz6]
  have u38 : (a6.put (some 45) (goInt k)).eval (.tmp 38) = .int .i64 (i : Int) := by simp [ev_put, sz6, v38]
  have u45 : (a6.put (some 45) (goInt k)).eval (.tmp 45) = .int .i64 (k : Int) := by simp [ev_put, sz6]; rfl
  generalize a6.put (some 45) (goInt k) = a7 at r8 sz7 u38 u45 ⊢
  have x8 : ∀ W : World, (execOp a7.eval o8).run P W = .ok (.value (.int .i64 ((i + k : Nat) : Int))) W := fun W => by
    have hg : (eqGuard .add t3 (.tmp 38) (.tmp 45) (.int .i64 (i : Int)) (.int .i64 (k : Int))).run P W = .ok () W := by unfold eqGuard; simp
    have hw : IntKind.i64.wrap ((i : Int) + (k : Int)) = ((i + k : Nat) : Int) := by rw [wrap64 (by omega) (by omega)]; omega
    simp [execOp, e8, u38, u45, hg, binOp, Op.intArith, hw]
  refine take_step (fun _ _ _ h => h) (i := 8) (o := o8) (v := .int .i64 ((i + k : Nat) : Int)) rfl hs k8 d8 q8 x8 ?_
  refine take_step (fun _ _ _ h => h) (i := 9) (o := o9) (v := .int .i64 ((i + k : Nat) : Int)) rfl hs k9 d9 q9 (fun W => by simp [execOp, e9, ev_put, sz7]) ?_
  have r9 := r8.setO (d := 46) (v := .int .i64 ((i + k : Nat) : Int)) rfl (pv := .dead) rfl trivial
  have r10 := r9.setO (d := 8) (v := .int .i64 ((i + k : Nat) : Int)) rfl (pv := .v false (.int .i64) ((i + k : Nat) : Int)) rfl ⟨[_], rfl, rfl⟩
  refine wpAny_done k10 ?_ _
  exact ⟨L', _, hst.trans s1, r10, hQ _ (by simp only [List.length_append, List.length_take, List.length_drop]; omega)⟩
set_option maxRecDepth 20000 in
theorem VW.rep7 (hT : TabOk P T) {rid : Nat} {o0 o1 o2 o3 : Oper} {t e : TypeId} {bb nf : Nat} {fs : List (Bool × Sh)} {cm : Bool} {ats : Array TypeId} {xs ys : List Int} {Q : Exit → St → Prop}
    (ht : tget T t = some ⟨.sl e (.int .i64), false, bb, nf, fs, cm⟩)
    (e0 : o0.op = .move (.tmp 7)) (d0 : o0.dst = some 31) (q0 : o0.guard = none) (e1 : o1.op = .move (.tmp 0)) (d1 : o1.dst = some 32) (q1 : o1.guard = none)
    (e2 : o2.op = .call ⟨.builtin .copy, #[.tmp 31, .tmp 32], ats⟩) (e2' : ats = #[t, t]) (d2 : o2.dst = some 33) (q2 : o2.guard = none) (e3 : o3.op = .assign (.tmp 33)) (d3 : o3.dst = some 8) (q3 : o3.guard = none)
    (p1 : ∀ (ys xs : List Int), V.put (rst0 e ys xs) 7 [] (.sl e (.int .i64)) .junk xs hitS = some ((rst0 e ys xs).set 7 (.root (.val false) (.sl e (.int .i64)) .junk xs)))
    (p2 : ∀ (zs xs ys : List Int), V.put ((rst0 e zs xs).set 7 (.root (.val false) (.sl e (.int .i64)) .junk xs)) 7 [] (.sl e (.int .i64)) .own ys hitS = some (rst0 e zs ys))
    (hl : xs.length ≤ 2000000) (h1 : 1 ≤ ys.length) (h2 : ys.length ≤ xs.length) (hQ : ∀ xs' : List Int, xs'.length = xs.length → Q .normal ((rst0 e ys xs').set 8 (.v false (.int .i64) (ys.length : Int)))) : VW P (.region rid #[o0, o1, o2, o3] false) (rst0 e ys xs) Q := by
  intro L a w hr
  obtain ⟨hu, ti, z, i1, i2, i3, i4, hpos⟩ := (hT t _ ht).sl e (.int .i64) rfl rfl
  have i2 : ti.size = 1 := i2
  have hg : (rst0 e ys xs).at 7 = .root (.val false) (.sl e (.int .i64)) .own xs := rfl
  obtain ⟨rt1, B0, rt2, rt3, rt4⟩ := hr.root hg
  have hC : L.C 7 = [a.tmps.getD 7 undef] := by simpa [mkV] using rt1.1
  rw [hC] at rt4
  obtain ⟨A, c, hval, hcap, _⟩ := OwnR.take rt4
  have hcap : xs.length ≤ c := hcap
  have hsz : a.tmps.size = 48 := hr.size
  have E7 : a.eval (.tmp 7) = .slice A xs.length c := hval
  obtain ⟨cs, hmk, hfz⟩ := (hr.orep (t := 0) (by rfl) : ORep L _ w (.v false (.sl e (.int .i64)) ys) _)
  have hcs : cs = [a.tmps.getD 0 undef] := by simpa [mkV] using hmk
  subst hcs
  refine wp_region ?_
  show wpOps P #[o0, o1, o2, o3] _ [0, 1, 2, 3] a w
  refine wpOps_step (o := o0) rfl q0 ?_
  have x0 : (execOp a.eval o0).run P w = .ok (.value (.slice A xs.length c)) w := by simp [execOp, e0, E7]
  unfold Oper.wp
  rw [x0, Oper.upon_value, d0]
  refine wpOps_step (o := o1) rfl q1 ?_
  have x1 : (execOp (a.put (some 31) (.slice A xs.length c)).eval o1).run P w = .ok (.value (a.eval (.tmp 0))) w := by simp [execOp, e1, ev_put, hsz]
  unfold Oper.wp
  rw [x1, Oper.upon_value, d1]
  have r0 := hr.setO (d := 31) (v := .slice A xs.length c) rfl (pv := .dead) rfl trivial
  have r1 := r0.setO (d := 32) (v := a.eval (.tmp 0)) rfl (pv := .dead) rfl trivial
  have sz2 : ((a.put (some 31) (.slice A xs.length c)).put (some 32) (a.eval (.tmp 0))).tmps.size = 48 := by simp [sz_put, hsz]
  have v31 : ((a.put (some 31) (.slice A xs.length c)).put (some 32) (a.eval (.tmp 0))).eval (.tmp 31) = .slice A xs.length c := by simp [ev_put, sz_put, hsz]
  have v32 : ((a.put (some 31) (.slice A xs.length c)).put (some 32) (a.eval (.tmp 0))).eval (.tmp 32) = a.eval (.tmp 0) := by simp [ev_put, sz_put, hsz]
  have r1 : Rel L (rst0 e ys xs) ((a.put (some 31) (.slice A xs.length c)).put (some 32) (a.eval (.tmp 0))) w Free := r1
  generalize ((a.put (some 31) (.slice A xs.length c)).put (some 32) (a.eval (.tmp 0))) = a2 at r1 sz2 v31 v32 ⊢
  have go : ∀ B : Nat → Prop, Rep w L.Z (.sl e (.int .i64)) .own xs [a.tmps.getD 7 undef] B → ∃ w', (Builtin.copy_ #[t, t] o2.type #[.slice A xs.length c, a.eval (.tmp 0)]).run P w = .ok (goInt ys.length) w' ∧ ExtF w w' B ∧ w'.heap.size = w.heap.size ∧ Rep w' L.Z (.sl e (.int .i64)) .own (xs.take 0 ++ ys ++ xs.drop (0 + ys.length)) [a.tmps.getD 7 undef] B := fun B hB => by
    obtain ⟨g1, g2⟩ := run_headFz (P := P) (k := ys.length) h1 (Nat.le_refl _) hfz
    rw [List.take_length] at g2
    have := run_copyInts (P := P) (ats := #[t, t]) (ty := o2.type) (ys := ys) (i := 0) hu rfl i1 i2 hB hval (by omega) h1 (by show min ys.length (xs.length - 0) = ys.length; omega) g1 g2
    rw [own_whole (by omega) hB hval] at this
    exact this
  obtain ⟨w1, c1, c2, c3, c4⟩ := go B0 rt4
  have x2 : (execOp a2.eval o2).run P w = .ok (.value (goInt ys.length)) w1 := by
    subst e2'
    have hb : ∀ cs u v, builtin .copy #[t, t] o2.type cs #[u, v] = (do pure (.value (← Builtin.copy_ #[t, t] o2.type #[u, v]))) := fun cs u v => rfl
    simp [execOp, e2, resolve, invoke, v31, v32, hb, c1]
  refine wpOps_step (o := o2) rfl q2 ?_
  unfold Oper.wp
  rw [x2, Oper.upon_value, d2]
  obtain ⟨L', s1, r7⟩ := r1.turn hg (p1 _ _) (p2 _ _ (xs.take 0 ++ ys ++ xs.drop (0 + ys.length))) (w' := w1) fun B hB hBF => by
    rw [hC] at hB ⊢
    obtain ⟨w2, y1, y2, y3, y4⟩ := go B hB
    rw [c1] at y1
    obtain rfl : w1 = w2 := by injection y1
    exact ⟨y2, y4⟩
  have r8 := r7.setO (d := 33) (v := goInt ys.length) rfl (pv := .dead) rfl trivial
  refine wpOps_step (o := o3) rfl q3 ?_
  have x3 : (execOp (a2.put (some 33) (goInt ys.length)).eval o3).run P w1 = .ok (.value (goInt ys.length)) w1 := by simp [execOp, e3, ev_put, sz2]
  unfold Oper.wp
  rw [x3, Oper.upon_value, d3]
  have r10 := r8.setO (d := 8) (v := goInt ys.length) rfl (pv := .v false (.int .i64) (ys.length : Int)) rfl ⟨[_], rfl, rfl⟩
  exact ⟨L', _, s1, r10, hQ _ (by simp only [List.length_append, List.length_take, List.length_drop]; omega)⟩
end
end Go.Proofs.Ytmechjnfeidnkaa.V

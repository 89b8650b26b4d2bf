/- impl.allocate walked. No condition. -/
import Derived.Test.YtmechjnfeidnkaaF8
set_option linter.unusedVariables false
set_option linter.unnecessarySimpa false
set_option linter.unusedSimpArgs false
namespace Go.Proofs.Ytmechjnfeidnkaa.V.W
open Go Go.RowKit
theorem tagE {P : Program} {f : FuncId} {args : List PV} {i : Nat} {agg : Bool} {s : Sh} {fi f0 : Fl} {x : s.ty} {Φ : s.ty → Prop} {l : List Value} {a : PV} (h : VX P f args i (fun pv ot => pv = a ∧ ∃ y, Φ y ∧ ot = .root (.val agg) s f0 y)) (ha : args[i]? = some (.root (.val agg) s f0 x)) (hu : Fl.untag s fi = f0) (he : encI s fi x = some l) (he' : ∀ y, Φ y → encI s fi y = some l) :
    VX P f (args.set i (.root (.val agg) s fi x)) i (fun pv ot => pv = a ∧ ∃ y, Φ y ∧ ot = .root (.val agg) s fi y) := by
  refine (h.tag ha hu he).mono fun pv ot ⟨ot0, ⟨h1, y, hy, h2⟩, h3⟩ => ⟨h1, y, hy, ?_⟩
  rcases h3 with ⟨y', e1, e2, e3⟩ | ⟨h3, _⟩
  · rw [h2] at e1
    cases e1
    exact e3
  · exact absurd (he' y hy) (h3 y h2)
/-- where the next window begins -/
def baseAt (t : List Nd) (s : List Int) (k : Nat) (M : List Int) (i : Nat) : Nat := pos t s k + wsum (win t s) (M.take i)
set_option maxRecDepth 20000 in
theorem alloc_vx {t : List Nd} {s : List Int} (hs : sizesOk t s = true) : ∀ (f k : Nat) (A : Nat → Bool), t.length - k ≤ f → k < t.length → (A k = true ∨ k = 0 ∨ win t s k = 0) →
    VX Try.prog 75 [.v false sNS t, .root (.val false) sBS .own (bars t s A), .v false (.int .i64) ((k : Nat))] 1 (fun pv ot => pv = nil0 ∧ ∃ bs : List (Int × Int), (∃ E : Nat → Bool, bs = bars t s E ∧ (∀ j, A j = true → E j = true) ∧ ∀ j, Bel t k j → win t s j ≠ 0 → E j = true) ∧ ot = .root (.val false) sBS .own bs)
  := by
  intro f
  induction f with
  | zero =>
    intro k A hf hk hD
    omega
  | succ f ih =>
    intro k A hf hk hD
    have hok := (sizesOk_iff.1 hs).1
    have htl := treeOk_len hok
    have hperm := children_perm hok hk
    have hcl : (children t k).length ≤ 12 := by
      rw [hperm.length_eq]
      have := kids_len t k t.length
      omega
    have hbl := bars_len t s A
    refine VX.of_rows hT Try.func75 rfl (by kernel_rfl) [] (by kernel_rfl) rfl rfl (by show 0 < (bars t s A).length; omega) fun l fi li e1 e2 => ?_
    obtain ⟨n, cp, rfl, rfl⟩ := io1 e1 e2
    show VW _ _ ([.v false sNS t, .root (.val false) sBS (.io n cp) (bars t s A), .v false (.int .i64) ((k : Nat)), D, D, D, D, D, D, D, D, D, D, D, D, D, D, D, D, D, D, D, D, D, D, D, D, D, D, D, D, D, D, D, D, D, D, D, D, D, D, D, D, D, D, D, D, D, D, D, D, D, D]) _
    generalize hL : children t k = L at *
    repeat refine VW.seq ?_
    refine VW.regl hT fun K hK => ?_
    simp only [List.replicate, List.set, List.map, List.any, List.append, Op.operands, dif_pos, gA, Call.operands, gB, gC, gD, gE, gF, gG, Nat.reduceMul, reduceCtorEq, Nat.reduceBEq, Nat.reduceAdd, Nat.reduceLT, Nat.reduceLeDiff, Nat.reduceSub, Nat.reduceEqDiff, bq, tgs, vq]
    refine hK _ ?_
    clear hK K
    try refine vthen_n ?_
    repeat refine VW.seq ?_
    refine VW.regl hT fun K hK => ?_
    simp only [List.replicate, List.set, List.map, List.any, List.append, Op.operands, dif_pos, gA, Call.operands, gB, gC, gD, gE, gF, gG, Nat.reduceMul, reduceCtorEq, Nat.reduceBEq, Nat.reduceAdd, Nat.reduceLT, Nat.reduceLeDiff, Nat.reduceSub, Nat.reduceEqDiff, bq, tgs, vq]
    refine vcall_of (children_vc t k (by omega)) ?_
    rw [hL]
    simp only [List.replicate, List.set, List.map, List.any, List.append, Op.operands, dif_pos, gA, Call.operands, gB, gC, gD, gE, gF, gG, Nat.reduceMul, reduceCtorEq, Nat.reduceBEq, Nat.reduceAdd, Nat.reduceLT, Nat.reduceLeDiff, Nat.reduceSub, Nat.reduceEqDiff, bq, tgs, vq]
    refine hK _ ?_
    clear hK K
    try refine vthen_n ?_
    apply cutl
    · intro tail
      rcases Nat.lt_or_ge 0 L.length with h0 | h0
      · repeat refine VW.seq ?_
        refine VW.regl hT fun K hK => ?_
        simp only [List.replicate, List.set, List.map, List.any, List.append, Op.operands, dif_pos, gA, Call.operands, gB, gC, gD, gE, gF, gG, Nat.reduceMul, reduceCtorEq, Nat.reduceBEq, Nat.reduceAdd, Nat.reduceLT, Nat.reduceLeDiff, Nat.reduceSub, Nat.reduceEqDiff, bq, tgs, vq]
        refine vcall_io 0 ?_
        simp only [List.replicate, List.set, List.map, List.any, List.append, Op.operands, dif_pos, gA, Call.operands, gB, gC, gD, gE, gF, gG, Nat.reduceMul, reduceCtorEq, Nat.reduceBEq, Nat.reduceAdd, Nat.reduceLT, Nat.reduceLeDiff, Nat.reduceSub, Nat.reduceEqDiff, bq, tgs, vq]
        refine vxcall_of (sort_vx L 97 sBS (bars t s A) (byWin (win t s)) (fun a b ha hb => ?_) h0 (by omega)) ?_
        · obtain ⟨a, rfl, a1, a2, a3, a4⟩ := kids_pos hok (hperm.mem_iff.1 ha)
          obtain ⟨b, rfl, b1, b2, b3, b4⟩ := kids_pos hok (hperm.mem_iff.1 hb)
          have := alloc1_vc (bars t s A) a b ⟨by omega, by omega⟩ ⟨by omega, by omega⟩
          rw [Int.toNat_natCast, Int.toNat_natCast, bars_get _ _ _ a2, bars_get _ _ _ b2] at this
          exact this
        simp only [List.replicate, List.set, List.map, List.any, List.append, Op.operands, dif_pos, gA, Call.operands, gB, gC, gD, gE, gF, gG, Nat.reduceMul, reduceCtorEq, Nat.reduceBEq, Nat.reduceAdd, Nat.reduceLT, Nat.reduceLeDiff, Nat.reduceSub, Nat.reduceEqDiff, bq, tgs, vq]
        refine hK _ ?_
        try refine vthen_n ?_
        exact tail.h
      · have h0 : L = [] := List.eq_nil_of_length_eq_zero (by omega)
        subst h0
        repeat refine VW.seq ?_
        refine VW.regl hT fun K hK => ?_
        simp only [List.replicate, List.set, List.map, List.any, List.append, Op.operands, dif_pos, gA, Call.operands, gB, gC, gD, gE, gF, gG, Nat.reduceMul, reduceCtorEq, Nat.reduceBEq, Nat.reduceAdd, Nat.reduceLT, Nat.reduceLeDiff, Nat.reduceSub, Nat.reduceEqDiff, bq, tgs, vq]
        refine vcall_of (sort0_vc 97 sBS (bars t s A)) ?_
        simp only [List.replicate, List.set, List.map, List.any, List.append, Op.operands, dif_pos, gA, Call.operands, gB, gC, gD, gE, gF, gG, Nat.reduceMul, reduceCtorEq, Nat.reduceBEq, Nat.reduceAdd, Nat.reduceLT, Nat.reduceLeDiff, Nat.reduceSub, Nat.reduceEqDiff, bq, tgs, vq]
        refine hK _ ?_
        try refine vthen_n ?_
        exact tail.h
    have hsp := fun i (h : i < L.length) => sort_pos hok (s := s) hperm h
    have hsorted : (isort (byWin (win t s)) L).Perm (kids t k t.length) := (isort_perm _ _).trans hperm
    have hsl : (isort (byWin (win t s)) L).length = L.length := isort_len _ _
    generalize hM : isort (byWin (win t s)) L = M at *
    have hbk : (bars t s A).getD k zb = ((win t s k : Int), (pos t s k : Int)) := by
      rw [bars_get _ _ _ hk]
      rcases hD with h | rfl | h
      · rw [if_pos h]
      · rw [pos_root]; simp
      · rw [pos_zero h]; simp
    have hpb := fun j (h : j < t.length) => pos_bd hok s j j (Nat.le_refl _) h
    have hpk := hpb k hk
    have hw0 := win_lim hs (k := 0) (by omega)
    repeat refine VW.seq ?_
    refine VW.regl hT fun K hK => ?_
    simp only [List.replicate, List.set, List.map, List.any, List.append, Op.operands, dif_pos, gA, Call.operands, gB, gC, gD, gE, gF, gG, Nat.reduceMul, reduceCtorEq, Nat.reduceBEq, Nat.reduceAdd, Nat.reduceLT, Nat.reduceLeDiff, Nat.reduceSub, Nat.reduceEqDiff, bq, tgs, vq]
    refine ⟨decide_eq_true ⟨Int.natCast_nonneg _, by show (k : Int) < ((bars t s A).length : Int); omega⟩, ?_⟩
    rw [hbk]
    refine hK _ ?_
    clear hK K
    try refine vthen_n ?_
    repeat refine VW.seq ?_
    refine VW.regl hT fun K hK => ?_
    simp only [List.replicate, List.set, List.map, List.any, List.append, Op.operands, dif_pos, gA, Call.operands, gB, gC, gD, gE, gF, gG, Nat.reduceMul, reduceCtorEq, Nat.reduceBEq, Nat.reduceAdd, Nat.reduceLT, Nat.reduceLeDiff, Nat.reduceSub, Nat.reduceEqDiff, bq, tgs, vq]
    refine hK _ ?_
    clear hK K
    try refine vthen_n ?_
    repeat refine VW.seq ?_
    refine VW.block ?_
    refine VW.loop (α := Nat × (Nat → Bool)) [(0, none), (4, none), (7, none), (21, none), (22, none), (23, none)] (fun p => [.v false sNS t, D, D, D, .root (.box 26) sBS (.io n cp) (bars t s p.2), D, D, .v false (.int .i64) ((baseAt t s k M p.1 : Nat)), D, D, D, D, D, D, D, D, D, D, D, D, D, .root (.val false) sI .own M, .v false (.int .i64) ((M.length : Nat)), .v false (.int .i64) ((p.1 : Nat)), D, D, D, D, D, D, D, D, D, D, D, D, D, D, D, D, D, D, D, D, D, D, D, D, D, D, D, D, D]) (fun p => p.1 ≤ M.length ∧ (∀ j, A j = true → p.2 j = true) ∧ ∀ m, m < p.1 → ∀ j, (j = (M.getD m 0).toNat ∨ Bel t (M.getD m 0).toNat j) → win t s j ≠ 0 → p.2 j = true) (fun p => M.length - p.1) ⟨(0, A), ⟨by omega, fun j h => h, fun m h => by omega⟩, ?_⟩ fun ⟨i, E⟩ ⟨hi, hE1, hE2⟩ => ?_
    · simp only [norm, homeOne, moveTo, keepS, keepGo, usesOut, List.foldl, ren, renC, List.replicate, List.set, List.map, List.any, List.append, Op.operands, dif_pos, gA, Call.operands, gB, gC, gD, gE, gF, gG, Nat.reduceMul, reduceCtorEq, Nat.reduceBEq, Nat.reduceAdd, Nat.reduceLT, Nat.reduceLeDiff, Nat.reduceSub, Nat.reduceEqDiff, bq, tgs, vq]
      rfl
    have hi : i ≤ M.length := hi
    have hE1 : ∀ j, A j = true → E j = true := hE1
    have hE2 : ∀ m, m < i → ∀ j, (j = (M.getD m 0).toNat ∨ Bel t (M.getD m 0).toNat j) → win t s j ≠ 0 → E j = true := hE2
    repeat refine VW.seq ?_
    refine VW.regl hT fun K hK => ?_
    simp only [List.replicate, List.set, List.map, List.any, List.append, Op.operands, dif_pos, gA, Call.operands, gB, gC, gD, gE, gF, gG, Nat.reduceMul, reduceCtorEq, Nat.reduceBEq, Nat.reduceAdd, Nat.reduceLT, Nat.reduceLeDiff, Nat.reduceSub, Nat.reduceEqDiff, bq, tgs, vq]
    refine hK _ ?_
    clear hK K
    try refine vthen_n ?_
    repeat refine VW.seq ?_
    refine VW.cond rfl (fun hc => ?_) (fun hc => ?_)
    · have hlt : i < M.length := by simpa using hc
      obtain ⟨c, hc0, h1, h2, h3, h4⟩ := kids_pos hok (hsorted.mem_iff.1 (getD_mem hlt))
      have hbe := bars_len t s E
      have hbc := bars_get t s E h2 zb
      have hpc := hpb c h2
      have hidx : decide (0 ≤ (c : Int) ∧ (c : Int) < ((bars t s E).length : Int)) = true := decide_eq_true ⟨Int.natCast_nonneg _, by omega⟩
      have htk := wsum_take (win t s) hlt
      have hsc := hsp i (by omega)
      rw [hc0, Int.toNat_natCast] at hsc htk
      have hpe := pos_eq hok (s := s) (k := k) h1 h2
      have hb0 : baseAt t s k M i = pos t s k + wsum (win t s) (M.take i) := rfl
      have hb1 : baseAt t s k M (i + 1) = pos t s k + wsum (win t s) (M.take (i + 1)) := rfl
      have hlim : baseAt t s k M (i + 1) ≤ 2176782336 := by
        have e1 := wsum_le (win t s) M (i + 1)
        have e2 : wsum (win t s) M = ksum t s k := wsum_perm hsorted
        have e3 := ksum_le hok s h1 h2 h3
        omega
      refine VW.skip (vthen_n ?_)
      repeat refine VW.seq ?_
      refine VW.block ?_
      repeat refine VW.seq ?_
      refine VW.regl hT fun K hK => ?_
      simp only [List.replicate, List.set, List.map, List.any, List.append, Op.operands, dif_pos, gA, Call.operands, gB, gC, gD, gE, gF, gG, Nat.reduceMul, reduceCtorEq, Nat.reduceBEq, Nat.reduceAdd, Nat.reduceLT, Nat.reduceLeDiff, Nat.reduceSub, Nat.reduceEqDiff, bq, tgs, vq]
      refine ⟨decide_eq_true ⟨Int.natCast_nonneg _, by show (i : Int) < (M.length : Int); omega⟩, ?_⟩
      rw [show M.getD i 0 = (c : Int) from hc0]
      refine hK _ ?_
      clear hK K
      try refine vthen_n ?_
      repeat refine VW.seq ?_
      refine VW.regl hT fun K hK => ?_
      simp only [List.replicate, List.set, List.map, List.any, List.append, Op.operands, dif_pos, gA, Call.operands, gB, gC, gD, gE, gF, gG, Nat.reduceMul, reduceCtorEq, Nat.reduceBEq, Nat.reduceAdd, Nat.reduceLT, Nat.reduceLeDiff, Nat.reduceSub, Nat.reduceEqDiff, bq, tgs, vq]
      refine ⟨hidx, ?_⟩
      rw [hbc]
      refine hK _ ?_
      clear hK K
      try refine vthen_n ?_
      obtain ⟨G, hG⟩ : ∃ G : Nat → Bool, G = fun j => E j || j == c := ⟨_, rfl⟩
      have hGE : ∀ j, E j = true → G j = true := fun j h => by rw [hG]; simp [h]
      have hGc : G c = true := by rw [hG]; simp
      have hbg := bars_get t s G h2 zb
      have hlg := bars_len t s G
      apply cutl
      · intro tail
        repeat refine VW.seq ?_
        refine VW.cond rfl (fun hc => ?_) (fun hc => ?_)
        · have hw : 0 < win t s c := by
            have : ((win t s c : Nat) : Int) > 0 := of_decide_eq_true hc
            omega
          have hpe := hpe (by omega) h3
          have hset : (bars t s E).set c (((win t s c : Int), if E c = true then (pos t s c : Int) else 0).1, ((baseAt t s k M i : Nat) : Int)) = bars t s G := by
            rw [hb0, hsc, ← hpe, hG]
            exact bars_set t s E h2
          repeat refine VW.seq ?_
          refine VW.regl hT fun K hK => ?_
          simp only [List.replicate, List.set, List.map, List.any, List.append, Op.operands, dif_pos, gA, Call.operands, gB, gC, gD, gE, gF, gG, Nat.reduceMul, reduceCtorEq, Nat.reduceBEq, Nat.reduceAdd, Nat.reduceLT, Nat.reduceLeDiff, Nat.reduceSub, Nat.reduceEqDiff, bq, tgs, vq]
          refine ⟨hidx, ?_⟩
          refine hK _ ?_
          try refine vthen_n ?_
          rw [hbc, hset]
          repeat refine VW.seq ?_
          refine VW.regl hT fun K hK => ?_
          simp only [List.replicate, List.set, List.map, List.any, List.append, Op.operands, dif_pos, gA, Call.operands, gB, gC, gD, gE, gF, gG, Nat.reduceMul, reduceCtorEq, Nat.reduceBEq, Nat.reduceAdd, Nat.reduceLT, Nat.reduceLeDiff, Nat.reduceSub, Nat.reduceEqDiff, bq, tgs, vq]
          refine ⟨decide_eq_true ⟨Int.natCast_nonneg _, by show (c : Int) < ((bars t s G).length : Int); omega⟩, ?_⟩
          rw [hbg]
          refine hK _ ?_
          try refine vthen_n ?_
          refine VW.weak (weak_norm [(0, none), (4, none), (7, none), (9, none), (21, none), (22, none), (23, none)] _) ?_
          simp only [norm, homeOne, moveTo, keepS, keepGo, usesOut, List.foldl, ren, renC, List.replicate, List.set, List.map, List.any, List.append, Op.operands, dif_pos, gA, Call.operands, gB, gC, gD, gE, gF, gG, Nat.reduceMul, reduceCtorEq, Nat.reduceBEq, Nat.reduceAdd, Nat.reduceLT, Nat.reduceLeDiff, Nat.reduceSub, Nat.reduceEqDiff, bq, tgs, vq]
          rw [wrap64 (by omega) (by omega), show ((baseAt t s k M i : Nat) : Int) + (win t s c : Int) = ((baseAt t s k M (i + 1) : Nat) : Int) by omega]
          exact tail.h
        · have hw : win t s c = 0 := by
            have : ¬ ((win t s c : Nat) : Int) > 0 := of_decide_eq_false hc
            omega
          refine VW.skip ?_
          show vthen _ _ _ .normal _
          refine vthen_n ?_
          refine VW.weak (weak_norm [(0, none), (4, none), (7, none), (9, none), (21, none), (22, none), (23, none)] _) ?_
          simp only [norm, homeOne, moveTo, keepS, keepGo, usesOut, List.foldl, ren, renC, List.replicate, List.set, List.map, List.any, List.append, Op.operands, dif_pos, gA, Call.operands, gB, gC, gD, gE, gF, gG, Nat.reduceMul, reduceCtorEq, Nat.reduceBEq, Nat.reduceAdd, Nat.reduceLT, Nat.reduceLeDiff, Nat.reduceSub, Nat.reduceEqDiff, bq, tgs, vq]
          rw [show baseAt t s k M i = baseAt t s k M (i + 1) by omega, show bars t s E = bars t s G from bars_same t s fun j q1 q2 q3 => by
            have : j ≠ c := by rintro rfl; exact q2 hw
            rw [hG]
            simp [this]]
          exact tail.h
      have hGo : ∀ H : Nat → Bool, (∀ j, G j = true → H j = true) → (∀ j, Bel t c j → win t s j ≠ 0 → H j = true) → (∀ j, A j = true → H j = true) ∧ ∀ m, m < i + 1 → ∀ j, (j = (M.getD m 0).toNat ∨ Bel t (M.getD m 0).toNat j) → win t s j ≠ 0 → H j = true := fun H q1 q2 => by
        refine ⟨fun j h => q1 j (hGE j (hE1 j h)), fun m q3 j q4 q5 => ?_⟩
        rcases Nat.lt_or_ge m i with q6 | q6
        · exact q1 j (hGE j (hE2 m q6 j q4 q5))
        · obtain rfl : m = i := by omega
          rw [hc0, Int.toNat_natCast] at q4
          rcases q4 with rfl | q4
          · exact q1 _ hGc
          · exact q2 j q4 q5
      repeat refine VW.seq ?_
      refine VW.regl hT fun K hK => ?_
      simp only [List.replicate, List.set, List.map, List.any, List.append, Op.operands, dif_pos, gA, Call.operands, gB, gC, gD, gE, gF, gG, Nat.reduceMul, reduceCtorEq, Nat.reduceBEq, Nat.reduceAdd, Nat.reduceLT, Nat.reduceLeDiff, Nat.reduceSub, Nat.reduceEqDiff, bq, tgs, vq]
      refine vcall_of (isBridge_vc t c (by omega) (by omega)) ?_
      simp only [List.replicate, List.set, List.map, List.any, List.append, Op.operands, dif_pos, gA, Call.operands, gB, gC, gD, gE, gF, gG, Nat.reduceMul, reduceCtorEq, Nat.reduceBEq, Nat.reduceAdd, Nat.reduceLT, Nat.reduceLeDiff, Nat.reduceSub, Nat.reduceEqDiff, bq, tgs, vq]
      refine hK _ ?_
      clear hK K
      try refine vthen_n ?_
      repeat refine VW.seq ?_
      refine VW.cond rfl (fun hc => ?_) (fun hc => ?_)
      · repeat refine VW.seq ?_
        refine VW.regl hT fun K hK => ?_
        simp only [List.replicate, List.set, List.map, List.any, List.append, Op.operands, dif_pos, gA, Call.operands, gB, gC, gD, gE, gF, gG, Nat.reduceMul, reduceCtorEq, Nat.reduceBEq, Nat.reduceAdd, Nat.reduceLT, Nat.reduceLeDiff, Nat.reduceSub, Nat.reduceEqDiff, bq, tgs, vq]
        refine vcall_io 1 ?_
        simp only [List.replicate, List.set, List.map, List.any, List.append, Op.operands, dif_pos, gA, Call.operands, gB, gC, gD, gE, gF, gG, Nat.reduceMul, reduceCtorEq, Nat.reduceBEq, Nat.reduceAdd, Nat.reduceLT, Nat.reduceLeDiff, Nat.reduceSub, Nat.reduceEqDiff, bq, tgs, vq]
        have hal := ih c G (by omega) h2 (.inl hGc)
        have hrec := tagE (agg := false) (s := sBS) (fi := .io n cp) (f0 := .own) (x := bars t s G) (l := [Value.slice (some ⟨n, 0, none⟩) (bars t s G).length cp]) hal rfl rfl rfl (fun y hy => by
          obtain ⟨H, q1, _⟩ := hy
          show some [Value.slice (some ⟨n, 0, none⟩) (List.length y) cp] = some [Value.slice (some ⟨n, 0, none⟩) (List.length (bars t s G)) cp]
          rw [q1, bars_len, bars_len])
        refine vxcall_ex hrec ?_
        rintro pv ot ⟨rfl, bs, ⟨H, rfl, q1, q2⟩, rfl⟩
        simp only [List.replicate, List.set, List.map, List.any, List.append, Op.operands, dif_pos, gA, Call.operands, gB, gC, gD, gE, gF, gG, Nat.reduceMul, reduceCtorEq, Nat.reduceBEq, Nat.reduceAdd, Nat.reduceLT, Nat.reduceLeDiff, Nat.reduceSub, Nat.reduceEqDiff, bq, tgs, vq]
        refine hK _ ?_
        clear hK K
        try refine vthen_n ?_
        show vthen _ _ _ .normal _
        refine vthen_n ?_
        repeat refine VW.seq ?_
        refine VW.regl hT fun K hK => ?_
        simp only [List.replicate, List.set, List.map, List.any, List.append, Op.operands, dif_pos, gA, Call.operands, gB, gC, gD, gE, gF, gG, Nat.reduceMul, reduceCtorEq, Nat.reduceBEq, Nat.reduceAdd, Nat.reduceLT, Nat.reduceLeDiff, Nat.reduceSub, Nat.reduceEqDiff, bq, tgs, vq]
        refine hK _ ?_
        clear hK K
        try refine vthen_n ?_
        refine ⟨(i + 1, H), ⟨hlt, hGo H q1 q2⟩, ?_, by show M.length - (i + 1) < M.length - i; omega⟩
        simp only [norm, homeOne, moveTo, keepS, keepGo, usesOut, List.foldl, ren, renC, List.replicate, List.set, List.map, List.any, List.append, Op.operands, dif_pos, gA, Call.operands, gB, gC, gD, gE, gF, gG, Nat.reduceMul, reduceCtorEq, Nat.reduceBEq, Nat.reduceAdd, Nat.reduceLT, Nat.reduceLeDiff, Nat.reduceSub, Nat.reduceEqDiff, bq, tgs, vq]
        rw [wrap64 (by omega) (by omega)]
        rfl
      · have hb : ¬ (t.getD c z).2.2 = 0 := by simpa using hc
        refine VW.skip ?_
        show vthen _ _ _ .normal _
        refine vthen_n ?_
        repeat refine VW.seq ?_
        refine VW.regl hT fun K hK => ?_
        simp only [List.replicate, List.set, List.map, List.any, List.append, Op.operands, dif_pos, gA, Call.operands, gB, gC, gD, gE, gF, gG, Nat.reduceMul, reduceCtorEq, Nat.reduceBEq, Nat.reduceAdd, Nat.reduceLT, Nat.reduceLeDiff, Nat.reduceSub, Nat.reduceEqDiff, bq, tgs, vq]
        refine hK _ ?_
        clear hK K
        try refine vthen_n ?_
        refine ⟨(i + 1, G), ⟨hlt, hGo G (fun j h => h) (fun j h _ => absurd (bel_bridge hok h) hb)⟩, ?_, by show M.length - (i + 1) < M.length - i; omega⟩
        simp only [norm, homeOne, moveTo, keepS, keepGo, usesOut, List.foldl, ren, renC, List.replicate, List.set, List.map, List.any, List.append, Op.operands, dif_pos, gA, Call.operands, gB, gC, gD, gE, gF, gG, Nat.reduceMul, reduceCtorEq, Nat.reduceBEq, Nat.reduceAdd, Nat.reduceLT, Nat.reduceLeDiff, Nat.reduceSub, Nat.reduceEqDiff, bq, tgs, vq]
        rw [wrap64 (by omega) (by omega)]
        rfl
    · have hge : i = M.length := by
        have : M.length ≤ i := by simpa using hc
        omega
      refine VW.exit ?_
      refine ⟨.inr rfl, _, _, _, _, rfl, ⟨4, _, rfl⟩, ?_, rfl, _, ⟨E, rfl, hE1, fun j h hw => ?_⟩, rfl⟩
      · show some [Value.slice (some ⟨n, 0, none⟩) (List.length (bars t s E)) cp] = some [Value.slice (some ⟨n, 0, none⟩) (List.length (bars t s A)) cp]
        rw [bars_len, bars_len]
      · obtain ⟨c, h1, h2, h3, h4⟩ := bel_cases h
        have hmem : (c : Int) ∈ M := hsorted.mem_iff.2 (kids_iff.2 ⟨by omega, by omega, h3⟩)
        obtain ⟨m, q1, q2⟩ := List.getElem_of_mem hmem
        have q3 : M.getD m 0 = (c : Int) := by rw [List.getD_eq_getElem?_getD, List.getElem?_eq_getElem q1, q2]; rfl
        exact hE2 m (by omega) j (by rw [q3, Int.toNat_natCast]; exact h4) hw
end Go.Proofs.Ytmechjnfeidnkaa.V.W

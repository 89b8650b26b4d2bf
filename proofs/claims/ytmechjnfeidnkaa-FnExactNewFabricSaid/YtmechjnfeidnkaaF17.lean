/- impl.NewFabric walked. No condition. -/
import Derived.Test.YtmechjnfeidnkaaF16
import Derived.Test.YtmechjnfeidnkaaG3
import Derived.Test.YtmechjnfeidnkaaY1
set_option linter.unusedVariables false
set_option linter.unnecessarySimpa false
set_option linter.unusedSimpArgs false
namespace Go.Proofs.Ytmechjnfeidnkaa.V.W
open Go Go.RowKit
theorem newFab1_vc (x : Int) : VC Try.prog 30 [.v false (.int .i64) (x)] (· = .v false .bool (decide (x > 64))) := by
  refine VC.of_body hT Try.func30 rfl (by kernel_rfl) [(.tmp 2, false, .bool)] (by kernel_rfl) ?_
  show VW _ _ ([.v false (.int .i64) (x), D, D, D, D]) _
  repeat refine VW.seq ?_
  refine VW.regl hT fun K hK => ?_
  simp only [List.replicate, List.set, List.map, List.any, List.append, Op.operands, dif_pos, gA, Call.operands, gB, gC, gD, gE, gF, gG, Nat.reduceMul, reduceCtorEq, Nat.reduceBEq, Nat.reduceAdd, Nat.reduceLT, Nat.reduceLeDiff, Nat.reduceSub, Nat.reduceEqDiff, bq, tgs, vq]
  refine hK _ ?_
  clear hK K
  try refine vthen_n ?_
  repeat refine VW.seq ?_
  refine VW.regl hT fun K hK => ?_
  simp only [List.replicate, List.set, List.map, List.any, List.append, Op.operands, dif_pos, gA, Call.operands, gB, gC, gD, gE, gF, gG, Nat.reduceMul, reduceCtorEq, Nat.reduceBEq, Nat.reduceAdd, Nat.reduceLT, Nat.reduceLeDiff, Nat.reduceSub, Nat.reduceEqDiff, bq, tgs, vq]
  refine hK _ ?_
  clear hK K
  try refine vthen_n ?_
  exact VW.ret ⟨.inl rfl, _, rfl, rfl⟩
/-- a new fabric can be made -/
def newOk (t : List Nd) (s : List Int) : Bool := fits t s && !s.any fun x => decide (x > 64)
/-- the first i rows of memory -/
def memTo (s : List Int) (i : Nat) : List (List Int) := (s.take i).map fun n => List.replicate n.toNat 0
theorem memTo_succ {s : List Int} {i : Nat} (h : i < s.length) : memTo s (i + 1) = memTo s i ++ [List.replicate (s.getD i 0).toNat 0] := by
  unfold memTo
  rw [List.take_add_one, List.getElem?_eq_getElem h, List.map_append, List.getD_eq_getElem?_getD, List.getElem?_eq_getElem h]
  rfl
theorem memTo_len {s : List Int} {i : Nat} (h : i ≤ s.length) : (memTo s i).length = i := by
  simp [memTo]; omega
def newFab (t : List Nd) (s : List Int) : Fab := (t, s, allBars t s, memTo s s.length, List.replicate s.length true)
abbrev fFab : Fl := .pr .own (.pr .own (.pr .own (.pr .own .own)))
abbrev rFab (fl : Fl) (x : Fab) (b : Bool) : PV := .root (.tup [true, false]) (.pr sFi .bool) (.pr fl .fz) (x, b)
set_option maxRecDepth 20000 in
set_option maxHeartbeats 2000000 in
theorem newFabric_vc (t : List Nd) (s : List Int) (hl : t.length ≤ 2000000) (hs : s.length ≤ 2000000) : VC Try.prog 8 [.v false sNS t, .v false sI s] (fun pv => if newOk t s = true then pv = rFab fFab (newFab t s) true else pv = rFab .own ([], [], [], [], []) false) := by
  refine VC.of_body hT Try.func8 rfl (by kernel_rfl) [(.cell 4 32, true, sFi), (.tmp 5, false, .bool)] (by kernel_rfl) ?_
  show VW _ _ ([.v false sNS t, .v false sI s, D, D, D, D, D, D, D, D, D, D, D, D, D, D, D, D, D, D, D, D, D, D, D, D, D, D, D, D, D, D, D, D, D, D, D, D, D, D, D, D, D, D, D, D, D, D, D, D, D, D, D, D, D, D, D, D, D, D, D, D, D, D, D, D, D, D]) _
  repeat refine VW.seq ?_
  refine VW.regl hT fun K hK => ?_
  simp only [List.replicate, List.set, List.map, List.any, List.append, Op.operands, dif_pos, gA, Call.operands, gB, gC, gD, gE, gF, gG, Nat.reduceMul, reduceCtorEq, Nat.reduceBEq, Nat.reduceAdd, Nat.reduceLT, Nat.reduceLeDiff, Nat.reduceSub, Nat.reduceEqDiff, bq, tgs, vq]
  refine hK _ ?_
  clear hK K
  try refine vthen_n ?_
  repeat refine VW.seq ?_
  refine VW.regl hT fun K hK => ?_
  simp only [List.replicate, List.set, List.map, List.any, List.append, Op.operands, dif_pos, gA, Call.operands, gB, gC, gD, gE, gF, gG, Nat.reduceMul, reduceCtorEq, Nat.reduceBEq, Nat.reduceAdd, Nat.reduceLT, Nat.reduceLeDiff, Nat.reduceSub, Nat.reduceEqDiff, bq, tgs, vq]
  refine vcall_of (sizesOk_vc t s hl hs) ?_
  simp only [List.replicate, List.set, List.map, List.any, List.append, Op.operands, dif_pos, gA, Call.operands, gB, gC, gD, gE, gF, gG, Nat.reduceMul, reduceCtorEq, Nat.reduceBEq, Nat.reduceAdd, Nat.reduceLT, Nat.reduceLeDiff, Nat.reduceSub, Nat.reduceEqDiff, bq, tgs, vq]
  refine vbr (fun h => ?_) (fun h => ?_) <;> simp only [List.replicate, List.set, List.map, List.any, List.append, Op.operands, dif_pos, gA, Call.operands, gB, gC, gD, gE, gF, gG, Nat.reduceMul, reduceCtorEq, Nat.reduceBEq, Nat.reduceAdd, Nat.reduceLT, Nat.reduceLeDiff, Nat.reduceSub, Nat.reduceEqDiff, bq, tgs, vq]
  case refine_2 =>
    refine hK _ ?_
    clear hK K
    try refine vthen_n ?_
    repeat refine VW.seq ?_
    refine VW.cond rfl (fun hc => ?_) (fun hc => ?_)
    · repeat refine VW.seq ?_
      refine VW.regl hT fun K hK => ?_
      simp only [List.replicate, List.set, List.map, List.any, List.append, Op.operands, dif_pos, gA, Call.operands, gB, gC, gD, gE, gF, gG, Nat.reduceMul, reduceCtorEq, Nat.reduceBEq, Nat.reduceAdd, Nat.reduceLT, Nat.reduceLeDiff, Nat.reduceSub, Nat.reduceEqDiff, bq, tgs, vq]
      refine hK _ ?_
      clear hK K
      try refine vthen_n ?_
      have h' : sizesOk t s = false := (Bool.not_eq_true' _).mp h
      refine VW.ret ⟨.inl rfl, _, rfl, ?_⟩
      rw [if_neg (by rw [newOk, fits, h', Bool.false_and, Bool.false_and]; decide)]
    · cases hc
  have hok0 : sizesOk t s = true := by
    have := h
    rwa [Bool.not_eq_false'] at this
  have hok := (sizesOk_iff.1 hok0).1
  have hsl := (sizesOk_iff.1 hok0).2.1
  have htl := treeOk_len hok
  refine vcall_of (containsI_vc s 30 [] (fun x => decide (x > 64)) rfl newFab1_vc hs) ?_
  simp only [List.replicate, List.set, List.map, List.any, List.append, Op.operands, dif_pos, gA, Call.operands, gB, gC, gD, gE, gF, gG, Nat.reduceMul, reduceCtorEq, Nat.reduceBEq, Nat.reduceAdd, Nat.reduceLT, Nat.reduceLeDiff, Nat.reduceSub, Nat.reduceEqDiff, bq, tgs, vq]
  refine hK _ ?_
  clear hK K
  try refine vthen_n ?_
  repeat refine VW.seq ?_
  refine VW.cond rfl (fun hc => ?_) (fun hc => ?_)
  · repeat refine VW.seq ?_
    refine VW.regl hT fun K hK => ?_
    simp only [List.replicate, List.set, List.map, List.any, List.append, Op.operands, dif_pos, gA, Call.operands, gB, gC, gD, gE, gF, gG, Nat.reduceMul, reduceCtorEq, Nat.reduceBEq, Nat.reduceAdd, Nat.reduceLT, Nat.reduceLeDiff, Nat.reduceSub, Nat.reduceEqDiff, bq, tgs, vq]
    refine hK _ ?_
    clear hK K
    try refine vthen_n ?_
    refine VW.ret ⟨.inl rfl, _, rfl, ?_⟩
    rw [if_neg (by rw [newOk, show (s.any fun x => decide (x > 64)) = true from hc]; simp)]
  have h64 : ∀ i, i < s.length → 0 ≤ s.getD i 0 ∧ s.getD i 0 ≤ 64 := fun i hi => by
    have hc : (s.any fun x => decide (x > 64)) = false := hc
    rw [List.any_eq_false] at hc
    have := hc _ (getD_mem hi)
    refine ⟨?_, by simpa using this⟩
    rcases sizes_node hok0 (k := i) (by omega) with h | ⟨h, _⟩
    · omega
    · have := pw_in h
      omega
  refine VW.skip (vthen_n ?_)
  repeat refine VW.seq ?_
  refine VW.regl hT fun K hK => ?_
  simp only [List.replicate, List.set, List.map, List.any, List.append, Op.operands, dif_pos, gA, Call.operands, gB, gC, gD, gE, gF, gG, Nat.reduceMul, reduceCtorEq, Nat.reduceBEq, Nat.reduceAdd, Nat.reduceLT, Nat.reduceLeDiff, Nat.reduceSub, Nat.reduceEqDiff, bq, tgs, vq]
  refine vcall_ex (enum_vc t hl) ?_
  intro pv hpv
  rw [if_pos hok] at hpv
  obtain ⟨x3, rfl⟩ := hpv
  simp only [List.replicate, List.set, List.map, List.any, List.append, Op.operands, dif_pos, gA, Call.operands, gB, gC, gD, gE, gF, gG, Nat.reduceMul, reduceCtorEq, Nat.reduceBEq, Nat.reduceAdd, Nat.reduceLT, Nat.reduceLeDiff, Nat.reduceSub, Nat.reduceEqDiff, bq, tgs, vq]
  refine hK _ ?_
  clear hK K
  try refine vthen_n ?_
  repeat refine VW.seq ?_
  refine VW.regl hT fun K hK => ?_
  simp only [List.replicate, List.set, List.map, List.any, List.append, Op.operands, dif_pos, gA, Call.operands, gB, gC, gD, gE, gF, gG, Nat.reduceMul, reduceCtorEq, Nat.reduceBEq, Nat.reduceAdd, Nat.reduceLT, Nat.reduceLeDiff, Nat.reduceSub, Nat.reduceEqDiff, bq, tgs, vq]
  refine vcall_ex (allocate_vc t s hl hs) ?_
  intro pv hpv
  by_cases hf : fits t s = true
  case neg =>
    rw [if_neg hf] at hpv
    obtain ⟨bs, rfl⟩ := hpv
    simp only [List.replicate, List.set, List.map, List.any, List.append, Op.operands, dif_pos, gA, Call.operands, gB, gC, gD, gE, gF, gG, Nat.reduceMul, reduceCtorEq, Nat.reduceBEq, Nat.reduceAdd, Nat.reduceLT, Nat.reduceLeDiff, Nat.reduceSub, Nat.reduceEqDiff, bq, tgs, vq]
    refine hK _ ?_
    clear hK K
    try refine vthen_n ?_
    repeat refine VW.seq ?_
    refine VW.regl hT fun K hK => ?_
    simp only [List.replicate, List.set, List.map, List.any, List.append, Op.operands, dif_pos, gA, Call.operands, gB, gC, gD, gE, gF, gG, Nat.reduceMul, reduceCtorEq, Nat.reduceBEq, Nat.reduceAdd, Nat.reduceLT, Nat.reduceLeDiff, Nat.reduceSub, Nat.reduceEqDiff, bq, tgs, vq]
    refine hK _ ?_
    clear hK K
    try refine vthen_n ?_
    repeat refine VW.seq ?_
    refine VW.cond rfl (fun hc => ?_) (fun hc => ?_)
    · repeat refine VW.seq ?_
      refine VW.regl hT fun K hK => ?_
      simp only [List.replicate, List.set, List.map, List.any, List.append, Op.operands, dif_pos, gA, Call.operands, gB, gC, gD, gE, gF, gG, Nat.reduceMul, reduceCtorEq, Nat.reduceBEq, Nat.reduceAdd, Nat.reduceLT, Nat.reduceLeDiff, Nat.reduceSub, Nat.reduceEqDiff, bq, tgs, vq]
      refine hK _ ?_
      clear hK K
      try refine vthen_n ?_
      refine VW.ret ⟨.inl rfl, _, rfl, ?_⟩
      rw [if_neg (by rw [newOk, (by simpa using hf : fits t s = false), Bool.false_and]; decide)]
    · cases hc
  rw [if_pos hf] at hpv
  subst hpv
  simp only [List.replicate, List.set, List.map, List.any, List.append, Op.operands, dif_pos, gA, Call.operands, gB, gC, gD, gE, gF, gG, Nat.reduceMul, reduceCtorEq, Nat.reduceBEq, Nat.reduceAdd, Nat.reduceLT, Nat.reduceLeDiff, Nat.reduceSub, Nat.reduceEqDiff, bq, tgs, vq]
  refine hK _ ?_
  clear hK K
  try refine vthen_n ?_
  repeat refine VW.seq ?_
  refine VW.regl hT fun K hK => ?_
  simp only [List.replicate, List.set, List.map, List.any, List.append, Op.operands, dif_pos, gA, Call.operands, gB, gC, gD, gE, gF, gG, Nat.reduceMul, reduceCtorEq, Nat.reduceBEq, Nat.reduceAdd, Nat.reduceLT, Nat.reduceLeDiff, Nat.reduceSub, Nat.reduceEqDiff, bq, tgs, vq]
  refine hK _ ?_
  clear hK K
  try refine vthen_n ?_
  repeat refine VW.seq ?_
  refine VW.cond rfl (fun hc => ?_) (fun hc => ?_)
  · cases hc
  refine VW.skip (vthen_n ?_)
  repeat refine VW.seq ?_
  refine VW.regl hT fun K hK => ?_
  simp only [List.replicate, List.set, List.map, List.any, List.append, Op.operands, dif_pos, gA, Call.operands, gB, gC, gD, gE, gF, gG, Nat.reduceMul, reduceCtorEq, Nat.reduceBEq, Nat.reduceAdd, Nat.reduceLT, Nat.reduceLeDiff, Nat.reduceSub, Nat.reduceEqDiff, bq, tgs, vq]
  refine vcall_of (clone_vc t hl) ?_
  simp only [List.replicate, List.set, List.map, List.any, List.append, Op.operands, dif_pos, gA, Call.operands, gB, gC, gD, gE, gF, gG, Nat.reduceMul, reduceCtorEq, Nat.reduceBEq, Nat.reduceAdd, Nat.reduceLT, Nat.reduceLeDiff, Nat.reduceSub, Nat.reduceEqDiff, bq, tgs, vq]
  refine vcall_of (cloneI_vc s hs) ?_
  simp only [List.replicate, List.set, List.map, List.any, List.append, Op.operands, dif_pos, gA, Call.operands, gB, gC, gD, gE, gF, gG, Nat.reduceMul, reduceCtorEq, Nat.reduceBEq, Nat.reduceAdd, Nat.reduceLT, Nat.reduceLeDiff, Nat.reduceSub, Nat.reduceEqDiff, bq, tgs, vq]
  refine hK _ ?_
  clear hK K
  try refine vthen_n ?_
  repeat refine VW.seq ?_
  refine VW.regl hT fun K hK => ?_
  simp only [List.replicate, List.set, List.map, List.any, List.append, Op.operands, dif_pos, gA, Call.operands, gB, gC, gD, gE, gF, gG, Nat.reduceMul, reduceCtorEq, Nat.reduceBEq, Nat.reduceAdd, Nat.reduceLT, Nat.reduceLeDiff, Nat.reduceSub, Nat.reduceEqDiff, bq, tgs, vq]
  refine hK _ ?_
  clear hK K
  try refine vthen_n ?_
  refine VW.retag (ι := Unit) (g := 10) (fun _ => fFab) _ rfl (fun w Z cs B h => ⟨(), h⟩) (fun j => by simp only [List.replicate, List.set, List.map, List.any, List.append, Op.operands, dif_pos, gA, Call.operands, gB, gC, gD, gE, gF, gG, Nat.reduceMul, reduceCtorEq, Nat.reduceBEq, Nat.reduceAdd, Nat.reduceLT, Nat.reduceLeDiff, Nat.reduceSub, Nat.reduceEqDiff, bq, tgs, vq]; rfl) (fun _ => ?_)
  repeat refine VW.seq ?_
  refine VW.block ?_
  refine VW.loop (α := Nat) [(0, none), (4, none), (10, none), (46, none), (47, none), (48, none)] (fun i => [.v false sNS t, D, D, D, .root (.box 32) sFi .own ([], [], [], [], []), D, D, D, D, D, .root (.box 32) sFi fFab (t, s, allBars t s, memTo s i, List.replicate i true), D, D, D, D, D, D, D, D, D, D, D, D, D, D, D, D, D, D, D, D, D, D, D, D, D, D, D, D, D, D, D, D, D, D, D, .v false sI s, .v false (.int .i64) ((s.length : Nat)), .v false (.int .i64) ((i : Nat)), D, D, D, D, D, D, D, D, D, D, D, D, D, D, D, D, D, D, D]) (fun i => i ≤ s.length) (fun i => s.length - i) ⟨0, by omega, ?_⟩ fun i hi => ?_
  · simp only [norm, homeOne, moveTo, keepS, keepGo, usesOut, List.foldl, ren, renC, List.replicate, List.set, List.map, List.any, List.append, Op.operands, dif_pos, gA, Call.operands, gB, gC, gD, gE, gF, gG, Nat.reduceMul, reduceCtorEq, Nat.reduceBEq, Nat.reduceAdd, Nat.reduceLT, Nat.reduceLeDiff, Nat.reduceSub, Nat.reduceEqDiff, bq, tgs, vq]
    rfl
  repeat refine VW.seq ?_
  refine VW.regl hT fun K hK => ?_
  simp only [List.replicate, List.set, List.map, List.any, List.append, Op.operands, dif_pos, gA, Call.operands, gB, gC, gD, gE, gF, gG, Nat.reduceMul, reduceCtorEq, Nat.reduceBEq, Nat.reduceAdd, Nat.reduceLT, Nat.reduceLeDiff, Nat.reduceSub, Nat.reduceEqDiff, bq, tgs, vq]
  refine hK _ ?_
  clear hK K
  try refine vthen_n ?_
  repeat refine VW.seq ?_
  refine VW.cond rfl (fun hc => ?_) (fun hc => ?_)
  · have hlt : i < s.length := by simpa using hc
    have hml := memTo_len (s := s) (i := i) (by omega)
    have h6 := h64 i hlt
    refine VW.skip (vthen_n ?_)
    repeat refine VW.seq ?_
    refine VW.block ?_
    repeat refine VW.seq ?_
    refine VW.regl hT fun K hK => ?_
    simp only [List.replicate, List.set, List.map, List.any, List.append, Op.operands, dif_pos, gA, Call.operands, gB, gC, gD, gE, gF, gG, Nat.reduceMul, reduceCtorEq, Nat.reduceBEq, Nat.reduceAdd, Nat.reduceLT, Nat.reduceLeDiff, Nat.reduceSub, Nat.reduceEqDiff, bq, tgs, vq]
    refine ⟨decide_eq_true ⟨Int.natCast_nonneg _, by show (i : Int) < (s.length : Int); omega⟩, ?_⟩
    refine hK _ ?_
    clear hK K
    try refine vthen_n ?_
    generalize hN : s.getD i 0 = N at *
    refine VW.weak (weak_norm [(0, none), (4, none), (10, none), (12, none), (46, none), (47, none), (48, none)] _) ?_
    simp only [norm, homeOne, moveTo, keepS, keepGo, usesOut, List.foldl, ren, renC, List.replicate, List.set, List.map, List.any, List.append, Op.operands, dif_pos, gA, Call.operands, gB, gC, gD, gE, gF, gG, Nat.reduceMul, reduceCtorEq, Nat.reduceBEq, Nat.reduceAdd, Nat.reduceLT, Nat.reduceLeDiff, Nat.reduceSub, Nat.reduceEqDiff, bq, tgs, vq]
    have hrep : true :: List.replicate i true = List.replicate i true ++ [true] := by rw [← List.replicate_succ, List.replicate_succ']
    have sc3 : (decide (0 ≤ N) && limOk N.toNat 8) = true := by simp [limOk]; omega
    refine VW.any hT hm fun K hK W hW => ?_
    apply cutl
    · intro tK
      apply cutl
      · intro t65535
        apply cutl
        · intro t32767
          apply cutl
          · intro t4095
            apply cutl
            · intro t3071
              apply cutl
              · intro t2559
                apply cutl
                · intro t991
                  apply cutl
                  · intro t767
                    apply cutl
                    · intro t989
                      apply cutl
                      · intro t975
                        apply cutl
                        · intro t735
                          apply cutl
                          · intro t479
                            apply cutl
                            · intro t255
                              apply cutl
                              · intro t973
                                apply cutl
                                · intro t967
                                  apply cutl
                                  · intro t733
                                    apply cutl
                                    · intro t719
                                      apply cutl
                                      · intro t477
                                        apply cutl
                                        · intro t463
                                          apply cutl
                                          · intro t223
                                            apply cutl
                                            · intro t965
                                              apply cutl
                                              · intro t717
                                                apply cutl
                                                · intro t711
                                                  apply cutl
                                                  · intro t461
                                                    apply cutl
                                                    · intro t455
                                                      apply cutl
                                                      · intro t221
                                                        apply cutl
                                                        · intro t207
                                                          apply cutl
                                                          · intro t709
                                                            apply cutl
                                                            · intro t453
                                                              apply cutl
                                                              · intro t205
                                                                apply cutl
                                                                · intro t199
                                                                  refine hW.takeF 0 0 1 _ (by kernel_rfl) ?_
                                                                  simp only [vone, vall, vpure, vfld, isFld, List.replicate, List.set, List.map, List.any, List.append, Op.operands, dif_pos, gA, Call.operands, gB, gC, gD, gE, gF, gG, Nat.reduceMul, reduceCtorEq, Nat.reduceBEq, Nat.reduceAdd, Nat.reduceLT, Nat.reduceLeDiff, Nat.reduceSub, Nat.reduceEqDiff, bq, tgs, vq]
                                                                  refine hW.take 1 2 5 _ (by kernel_rfl) ?_
                                                                  simp only [vone, vall, vpure, vfld, isFld, List.replicate, List.set, List.map, List.any, List.append, Op.operands, dif_pos, gA, Call.operands, gB, gC, gD, gE, gF, gG, Nat.reduceMul, reduceCtorEq, Nat.reduceBEq, Nat.reduceAdd, Nat.reduceLT, Nat.reduceLeDiff, Nat.reduceSub, Nat.reduceEqDiff, bq, tgs, vq]
                                                                  refine hW.takeF 5 6 69 _ (by kernel_rfl) ?_
                                                                  simp only [vone, vall, vpure, vfld, isFld, List.replicate, List.set, List.map, List.any, List.append, Op.operands, dif_pos, gA, Call.operands, gB, gC, gD, gE, gF, gG, Nat.reduceMul, reduceCtorEq, Nat.reduceBEq, Nat.reduceAdd, Nat.reduceLT, Nat.reduceLeDiff, Nat.reduceSub, Nat.reduceEqDiff, bq, tgs, vq]
                                                                  refine hW.takeF 69 7 197 _ (by kernel_rfl) ?_
                                                                  simp only [vone, vall, vpure, vfld, isFld, List.replicate, List.set, List.map, List.any, List.append, Op.operands, dif_pos, gA, Call.operands, gB, gC, gD, gE, gF, gG, Nat.reduceMul, reduceCtorEq, Nat.reduceBEq, Nat.reduceAdd, Nat.reduceLT, Nat.reduceLeDiff, Nat.reduceSub, Nat.reduceEqDiff, bq, tgs, vq]
                                                                  refine hW.all 197 [(1, 199), (3, 205), (8, 453), (9, 709)] _ (by kernel_rfl) (by simp) ?_
                                                                  simp only [vone, vall, vpure, vfld, isFld, List.replicate, List.set, List.map, List.any, List.append, Op.operands, dif_pos, gA, Call.operands, gB, gC, gD, gE, gF, gG, Nat.reduceMul, reduceCtorEq, Nat.reduceBEq, Nat.reduceAdd, Nat.reduceLT, Nat.reduceLeDiff, Nat.reduceSub, Nat.reduceEqDiff, bq, tgs, vq]
                                                                  refine ⟨?_, ?_, ?_, ?_⟩
                                                                  · exact t199.h
                                                                  · refine ⟨sc3, ?_⟩
                                                                    exact t205.h
                                                                  · exact t453.h
                                                                  · exact t709.h
                                                                · skip
                                                                  refine hW.all 199 [(3, 207), (8, 455), (9, 711)] _ (by kernel_rfl) (by simp) ?_
                                                                  simp only [vone, vall, vpure, vfld, isFld, List.replicate, List.set, List.map, List.any, List.append, Op.operands, dif_pos, gA, Call.operands, gB, gC, gD, gE, gF, gG, Nat.reduceMul, reduceCtorEq, Nat.reduceBEq, Nat.reduceAdd, Nat.reduceLT, Nat.reduceLeDiff, Nat.reduceSub, Nat.reduceEqDiff, bq, tgs, vq]
                                                                  refine ⟨?_, ?_, ?_⟩
                                                                  · refine ⟨sc3, ?_⟩
                                                                    exact t207.h
                                                                  · exact t455.h
                                                                  · exact t711.h
                                                              · skip
                                                                refine hW.all 205 [(1, 207), (4, 221), (8, 461), (9, 717)] _ (by kernel_rfl) (by simp) ?_
                                                                simp only [vone, vall, vpure, vfld, isFld, List.replicate, List.set, List.map, List.any, List.append, Op.operands, dif_pos, gA, Call.operands, gB, gC, gD, gE, gF, gG, Nat.reduceMul, reduceCtorEq, Nat.reduceBEq, Nat.reduceAdd, Nat.reduceLT, Nat.reduceLeDiff, Nat.reduceSub, Nat.reduceEqDiff, bq, tgs, vq]
                                                                refine ⟨?_, ?_, ?_, ?_⟩
                                                                · exact t207.h
                                                                · exact t221.h
                                                                · exact t461.h
                                                                · exact t717.h
                                                            · skip
                                                              refine hW.all 453 [(1, 455), (3, 461), (9, 965)] _ (by kernel_rfl) (by simp) ?_
                                                              simp only [vone, vall, vpure, vfld, isFld, List.replicate, List.set, List.map, List.any, List.append, Op.operands, dif_pos, gA, Call.operands, gB, gC, gD, gE, gF, gG, Nat.reduceMul, reduceCtorEq, Nat.reduceBEq, Nat.reduceAdd, Nat.reduceLT, Nat.reduceLeDiff, Nat.reduceSub, Nat.reduceEqDiff, bq, tgs, vq]
                                                              refine ⟨?_, ?_, ?_⟩
                                                              · exact t455.h
                                                              · refine ⟨sc3, ?_⟩
                                                                exact t461.h
                                                              · exact t965.h
                                                          · skip
                                                            refine hW.all 709 [(1, 711), (3, 717), (8, 965)] _ (by kernel_rfl) (by simp) ?_
                                                            simp only [vone, vall, vpure, vfld, isFld, List.replicate, List.set, List.map, List.any, List.append, Op.operands, dif_pos, gA, Call.operands, gB, gC, gD, gE, gF, gG, Nat.reduceMul, reduceCtorEq, Nat.reduceBEq, Nat.reduceAdd, Nat.reduceLT, Nat.reduceLeDiff, Nat.reduceSub, Nat.reduceEqDiff, bq, tgs, vq]
                                                            refine ⟨?_, ?_, ?_⟩
                                                            · exact t711.h
                                                            · refine ⟨sc3, ?_⟩
                                                              exact t717.h
                                                            · exact t965.h
                                                        · skip
                                                          refine hW.all 207 [(4, 223), (8, 463), (9, 719)] _ (by kernel_rfl) (by simp) ?_
                                                          simp only [vone, vall, vpure, vfld, isFld, List.replicate, List.set, List.map, List.any, List.append, Op.operands, dif_pos, gA, Call.operands, gB, gC, gD, gE, gF, gG, Nat.reduceMul, reduceCtorEq, Nat.reduceBEq, Nat.reduceAdd, Nat.reduceLT, Nat.reduceLeDiff, Nat.reduceSub, Nat.reduceEqDiff, bq, tgs, vq]
                                                          refine ⟨?_, ?_, ?_⟩
                                                          · exact t223.h
                                                          · exact t463.h
                                                          · exact t719.h
                                                      · skip
                                                        refine hW.all 221 [(1, 223), (8, 477), (9, 733)] _ (by kernel_rfl) (by simp) ?_
                                                        simp only [vone, vall, vpure, vfld, isFld, List.replicate, List.set, List.map, List.any, List.append, Op.operands, dif_pos, gA, Call.operands, gB, gC, gD, gE, gF, gG, Nat.reduceMul, reduceCtorEq, Nat.reduceBEq, Nat.reduceAdd, Nat.reduceLT, Nat.reduceLeDiff, Nat.reduceSub, Nat.reduceEqDiff, bq, tgs, vq]
                                                        refine ⟨?_, ?_, ?_⟩
                                                        · exact t223.h
                                                        · exact t477.h
                                                        · exact t733.h
                                                    · skip
                                                      refine hW.all 455 [(3, 463), (9, 967)] _ (by kernel_rfl) (by simp) ?_
                                                      simp only [vone, vall, vpure, vfld, isFld, List.replicate, List.set, List.map, List.any, List.append, Op.operands, dif_pos, gA, Call.operands, gB, gC, gD, gE, gF, gG, Nat.reduceMul, reduceCtorEq, Nat.reduceBEq, Nat.reduceAdd, Nat.reduceLT, Nat.reduceLeDiff, Nat.reduceSub, Nat.reduceEqDiff, bq, tgs, vq]
                                                      refine ⟨?_, ?_⟩
                                                      · refine ⟨sc3, ?_⟩
                                                        exact t463.h
                                                      · exact t967.h
                                                  · skip
                                                    refine hW.all 461 [(1, 463), (4, 477), (9, 973)] _ (by kernel_rfl) (by simp) ?_
                                                    simp only [vone, vall, vpure, vfld, isFld, List.replicate, List.set, List.map, List.any, List.append, Op.operands, dif_pos, gA, Call.operands, gB, gC, gD, gE, gF, gG, Nat.reduceMul, reduceCtorEq, Nat.reduceBEq, Nat.reduceAdd, Nat.reduceLT, Nat.reduceLeDiff, Nat.reduceSub, Nat.reduceEqDiff, bq, tgs, vq]
                                                    refine ⟨?_, ?_, ?_⟩
                                                    · exact t463.h
                                                    · exact t477.h
                                                    · exact t973.h
                                                · skip
                                                  refine hW.all 711 [(3, 719), (8, 967)] _ (by kernel_rfl) (by simp) ?_
                                                  simp only [vone, vall, vpure, vfld, isFld, List.replicate, List.set, List.map, List.any, List.append, Op.operands, dif_pos, gA, Call.operands, gB, gC, gD, gE, gF, gG, Nat.reduceMul, reduceCtorEq, Nat.reduceBEq, Nat.reduceAdd, Nat.reduceLT, Nat.reduceLeDiff, Nat.reduceSub, Nat.reduceEqDiff, bq, tgs, vq]
                                                  refine ⟨?_, ?_⟩
                                                  · refine ⟨sc3, ?_⟩
                                                    exact t719.h
                                                  · exact t967.h
                                              · skip
                                                refine hW.all 717 [(1, 719), (4, 733), (8, 973)] _ (by kernel_rfl) (by simp) ?_
                                                simp only [vone, vall, vpure, vfld, isFld, List.replicate, List.set, List.map, List.any, List.append, Op.operands, dif_pos, gA, Call.operands, gB, gC, gD, gE, gF, gG, Nat.reduceMul, reduceCtorEq, Nat.reduceBEq, Nat.reduceAdd, Nat.reduceLT, Nat.reduceLeDiff, Nat.reduceSub, Nat.reduceEqDiff, bq, tgs, vq]
                                                refine ⟨?_, ?_, ?_⟩
                                                · exact t719.h
                                                · exact t733.h
                                                · exact t973.h
                                            · skip
                                              refine hW.all 965 [(1, 967), (3, 973)] _ (by kernel_rfl) (by simp) ?_
                                              simp only [vone, vall, vpure, vfld, isFld, List.replicate, List.set, List.map, List.any, List.append, Op.operands, dif_pos, gA, Call.operands, gB, gC, gD, gE, gF, gG, Nat.reduceMul, reduceCtorEq, Nat.reduceBEq, Nat.reduceAdd, Nat.reduceLT, Nat.reduceLeDiff, Nat.reduceSub, Nat.reduceEqDiff, bq, tgs, vq]
                                              refine ⟨?_, ?_⟩
                                              · exact t967.h
                                              · refine ⟨sc3, ?_⟩
                                                exact t973.h
                                          · skip
                                            refine hW.all 223 [(5, 255), (8, 479), (9, 735)] _ (by kernel_rfl) (by simp) ?_
                                            simp only [vone, vall, vpure, vfld, isFld, List.replicate, List.set, List.map, List.any, List.append, Op.operands, dif_pos, gA, Call.operands, gB, gC, gD, gE, gF, gG, Nat.reduceMul, reduceCtorEq, Nat.reduceBEq, Nat.reduceAdd, Nat.reduceLT, Nat.reduceLeDiff, Nat.reduceSub, Nat.reduceEqDiff, bq, tgs, vq]
                                            refine ⟨?_, ?_, ?_⟩
                                            · refine ⟨by simp [limOk, hml]; omega, ?_⟩
                                              exact t255.h
                                            · exact t479.h
                                            · exact t735.h
                                        · skip
                                          refine hW.all 463 [(4, 479), (9, 975)] _ (by kernel_rfl) (by simp) ?_
                                          simp only [vone, vall, vpure, vfld, isFld, List.replicate, List.set, List.map, List.any, List.append, Op.operands, dif_pos, gA, Call.operands, gB, gC, gD, gE, gF, gG, Nat.reduceMul, reduceCtorEq, Nat.reduceBEq, Nat.reduceAdd, Nat.reduceLT, Nat.reduceLeDiff, Nat.reduceSub, Nat.reduceEqDiff, bq, tgs, vq]
                                          refine ⟨?_, ?_⟩
                                          · exact t479.h
                                          · exact t975.h
                                      · skip
                                        refine hW.all 477 [(1, 479), (9, 989)] _ (by kernel_rfl) (by simp) ?_
                                        simp only [vone, vall, vpure, vfld, isFld, List.replicate, List.set, List.map, List.any, List.append, Op.operands, dif_pos, gA, Call.operands, gB, gC, gD, gE, gF, gG, Nat.reduceMul, reduceCtorEq, Nat.reduceBEq, Nat.reduceAdd, Nat.reduceLT, Nat.reduceLeDiff, Nat.reduceSub, Nat.reduceEqDiff, bq, tgs, vq]
                                        refine ⟨?_, ?_⟩
                                        · exact t479.h
                                        · exact t989.h
                                    · skip
                                      refine hW.all 719 [(4, 735), (8, 975)] _ (by kernel_rfl) (by simp) ?_
                                      simp only [vone, vall, vpure, vfld, isFld, List.replicate, List.set, List.map, List.any, List.append, Op.operands, dif_pos, gA, Call.operands, gB, gC, gD, gE, gF, gG, Nat.reduceMul, reduceCtorEq, Nat.reduceBEq, Nat.reduceAdd, Nat.reduceLT, Nat.reduceLeDiff, Nat.reduceSub, Nat.reduceEqDiff, bq, tgs, vq]
                                      refine ⟨?_, ?_⟩
                                      · exact t735.h
                                      · exact t975.h
                                  · skip
                                    refine hW.all 733 [(1, 735), (8, 989)] _ (by kernel_rfl) (by simp) ?_
                                    simp only [vone, vall, vpure, vfld, isFld, List.replicate, List.set, List.map, List.any, List.append, Op.operands, dif_pos, gA, Call.operands, gB, gC, gD, gE, gF, gG, Nat.reduceMul, reduceCtorEq, Nat.reduceBEq, Nat.reduceAdd, Nat.reduceLT, Nat.reduceLeDiff, Nat.reduceSub, Nat.reduceEqDiff, bq, tgs, vq]
                                    refine ⟨?_, ?_⟩
                                    · exact t735.h
                                    · exact t989.h
                                · skip
                                  refine hW.all 967 [(3, 975)] _ (by kernel_rfl) (by simp) ?_
                                  simp only [vone, vall, vpure, vfld, isFld, List.replicate, List.set, List.map, List.any, List.append, Op.operands, dif_pos, gA, Call.operands, gB, gC, gD, gE, gF, gG, Nat.reduceMul, reduceCtorEq, Nat.reduceBEq, Nat.reduceAdd, Nat.reduceLT, Nat.reduceLeDiff, Nat.reduceSub, Nat.reduceEqDiff, bq, tgs, vq]
                                  skip
                                  refine ⟨sc3, ?_⟩
                                  exact t975.h
                              · skip
                                refine hW.all 973 [(1, 975), (4, 989)] _ (by kernel_rfl) (by simp) ?_
                                simp only [vone, vall, vpure, vfld, isFld, List.replicate, List.set, List.map, List.any, List.append, Op.operands, dif_pos, gA, Call.operands, gB, gC, gD, gE, gF, gG, Nat.reduceMul, reduceCtorEq, Nat.reduceBEq, Nat.reduceAdd, Nat.reduceLT, Nat.reduceLeDiff, Nat.reduceSub, Nat.reduceEqDiff, bq, tgs, vq]
                                refine ⟨?_, ?_⟩
                                · exact t975.h
                                · exact t989.h
                            · skip
                              refine hW.all 255 [(8, 511), (9, 767)] _ (by kernel_rfl) (by simp) ?_
                              simp only [vone, vall, vpure, vfld, isFld, List.replicate, List.set, List.map, List.any, List.append, Op.operands, dif_pos, gA, Call.operands, gB, gC, gD, gE, gF, gG, Nat.reduceMul, reduceCtorEq, Nat.reduceBEq, Nat.reduceAdd, Nat.reduceLT, Nat.reduceLeDiff, Nat.reduceSub, Nat.reduceEqDiff, bq, tgs, vq]
                              refine ⟨?_, ?_⟩
                              · refine hW.takeF 511 11 2559 _ (by kernel_rfl) ?_
                                simp only [vone, vall, vpure, vfld, isFld, List.replicate, List.set, List.map, List.any, List.append, Op.operands, dif_pos, gA, Call.operands, gB, gC, gD, gE, gF, gG, Nat.reduceMul, reduceCtorEq, Nat.reduceBEq, Nat.reduceAdd, Nat.reduceLT, Nat.reduceLeDiff, Nat.reduceSub, Nat.reduceEqDiff, bq, tgs, vq]
                                exact t2559.h
                              · exact t767.h
                          · skip
                            refine hW.all 479 [(5, 511), (9, 991)] _ (by kernel_rfl) (by simp) ?_
                            simp only [vone, vall, vpure, vfld, isFld, List.replicate, List.set, List.map, List.any, List.append, Op.operands, dif_pos, gA, Call.operands, gB, gC, gD, gE, gF, gG, Nat.reduceMul, reduceCtorEq, Nat.reduceBEq, Nat.reduceAdd, Nat.reduceLT, Nat.reduceLeDiff, Nat.reduceSub, Nat.reduceEqDiff, bq, tgs, vq]
                            refine ⟨?_, ?_⟩
                            · refine ⟨by simp [limOk, hml]; omega, ?_⟩
                              refine hW.takeF 511 11 2559 _ (by kernel_rfl) ?_
                              simp only [vone, vall, vpure, vfld, isFld, List.replicate, List.set, List.map, List.any, List.append, Op.operands, dif_pos, gA, Call.operands, gB, gC, gD, gE, gF, gG, Nat.reduceMul, reduceCtorEq, Nat.reduceBEq, Nat.reduceAdd, Nat.reduceLT, Nat.reduceLeDiff, Nat.reduceSub, Nat.reduceEqDiff, bq, tgs, vq]
                              exact t2559.h
                            · exact t991.h
                        · skip
                          refine hW.all 735 [(5, 767), (8, 991)] _ (by kernel_rfl) (by simp) ?_
                          simp only [vone, vall, vpure, vfld, isFld, List.replicate, List.set, List.map, List.any, List.append, Op.operands, dif_pos, gA, Call.operands, gB, gC, gD, gE, gF, gG, Nat.reduceMul, reduceCtorEq, Nat.reduceBEq, Nat.reduceAdd, Nat.reduceLT, Nat.reduceLeDiff, Nat.reduceSub, Nat.reduceEqDiff, bq, tgs, vq]
                          refine ⟨?_, ?_⟩
                          · refine ⟨by simp [limOk, hml]; omega, ?_⟩
                            exact t767.h
                          · exact t991.h
                      · skip
                        refine hW.all 975 [(4, 991)] _ (by kernel_rfl) (by simp) ?_
                        simp only [vone, vall, vpure, vfld, isFld, List.replicate, List.set, List.map, List.any, List.append, Op.operands, dif_pos, gA, Call.operands, gB, gC, gD, gE, gF, gG, Nat.reduceMul, reduceCtorEq, Nat.reduceBEq, Nat.reduceAdd, Nat.reduceLT, Nat.reduceLeDiff, Nat.reduceSub, Nat.reduceEqDiff, bq, tgs, vq]
                        skip
                        exact t991.h
                    · skip
                      refine hW.all 989 [(1, 991)] _ (by kernel_rfl) (by simp) ?_
                      simp only [vone, vall, vpure, vfld, isFld, List.replicate, List.set, List.map, List.any, List.append, Op.operands, dif_pos, gA, Call.operands, gB, gC, gD, gE, gF, gG, Nat.reduceMul, reduceCtorEq, Nat.reduceBEq, Nat.reduceAdd, Nat.reduceLT, Nat.reduceLeDiff, Nat.reduceSub, Nat.reduceEqDiff, bq, tgs, vq]
                      skip
                      exact t991.h
                  · skip
                    refine hW.all 767 [(8, 1023)] _ (by kernel_rfl) (by simp) ?_
                    simp only [vone, vall, vpure, vfld, isFld, List.replicate, List.set, List.map, List.any, List.append, Op.operands, dif_pos, gA, Call.operands, gB, gC, gD, gE, gF, gG, Nat.reduceMul, reduceCtorEq, Nat.reduceBEq, Nat.reduceAdd, Nat.reduceLT, Nat.reduceLeDiff, Nat.reduceSub, Nat.reduceEqDiff, bq, tgs, vq]
                    skip
                    refine hW.takeF 1023 11 3071 _ (by kernel_rfl) ?_
                    simp only [vone, vall, vpure, vfld, isFld, List.replicate, List.set, List.map, List.any, List.append, Op.operands, dif_pos, gA, Call.operands, gB, gC, gD, gE, gF, gG, Nat.reduceMul, reduceCtorEq, Nat.reduceBEq, Nat.reduceAdd, Nat.reduceLT, Nat.reduceLeDiff, Nat.reduceSub, Nat.reduceEqDiff, bq, tgs, vq]
                    exact t3071.h
                · skip
                  refine hW.all 991 [(5, 1023)] _ (by kernel_rfl) (by simp) ?_
                  simp only [vone, vall, vpure, vfld, isFld, List.replicate, List.set, List.map, List.any, List.append, Op.operands, dif_pos, gA, Call.operands, gB, gC, gD, gE, gF, gG, Nat.reduceMul, reduceCtorEq, Nat.reduceBEq, Nat.reduceAdd, Nat.reduceLT, Nat.reduceLeDiff, Nat.reduceSub, Nat.reduceEqDiff, bq, tgs, vq]
                  skip
                  refine ⟨by simp [limOk, hml]; omega, ?_⟩
                  refine hW.takeF 1023 11 3071 _ (by kernel_rfl) ?_
                  simp only [vone, vall, vpure, vfld, isFld, List.replicate, List.set, List.map, List.any, List.append, Op.operands, dif_pos, gA, Call.operands, gB, gC, gD, gE, gF, gG, Nat.reduceMul, reduceCtorEq, Nat.reduceBEq, Nat.reduceAdd, Nat.reduceLT, Nat.reduceLeDiff, Nat.reduceSub, Nat.reduceEqDiff, bq, tgs, vq]
                  exact t3071.h
              · skip
                refine hW.all 2559 [(9, 3071)] _ (by kernel_rfl) (by simp) ?_
                simp only [vone, vall, vpure, vfld, isFld, List.replicate, List.set, List.map, List.any, List.append, Op.operands, dif_pos, gA, Call.operands, gB, gC, gD, gE, gF, gG, Nat.reduceMul, reduceCtorEq, Nat.reduceBEq, Nat.reduceAdd, Nat.reduceLT, Nat.reduceLeDiff, Nat.reduceSub, Nat.reduceEqDiff, bq, tgs, vq]
                skip
                exact t3071.h
            · skip
              refine hW.all 3071 [(10, 4095)] _ (by kernel_rfl) (by simp) ?_
              simp only [vone, vall, vpure, vfld, isFld, List.replicate, List.set, List.map, List.any, List.append, Op.operands, dif_pos, gA, Call.operands, gB, gC, gD, gE, gF, gG, Nat.reduceMul, reduceCtorEq, Nat.reduceBEq, Nat.reduceAdd, Nat.reduceLT, Nat.reduceLeDiff, Nat.reduceSub, Nat.reduceEqDiff, bq, tgs, vq]
              skip
              refine ⟨by simp [limOk, hml]; omega, ?_⟩
              exact t4095.h
          · skip
            refine hW.all 4095 [(12, 8191)] _ (by kernel_rfl) (by simp) ?_
            simp only [vone, vall, vpure, vfld, isFld, List.replicate, List.set, List.map, List.any, List.append, Op.operands, dif_pos, gA, Call.operands, gB, gC, gD, gE, gF, gG, Nat.reduceMul, reduceCtorEq, Nat.reduceBEq, Nat.reduceAdd, Nat.reduceLT, Nat.reduceLeDiff, Nat.reduceSub, Nat.reduceEqDiff, bq, tgs, vq]
            skip
            refine hW.takeF 8191 13 16383 _ (by kernel_rfl) ?_
            simp only [vone, vall, vpure, vfld, isFld, List.replicate, List.set, List.map, List.any, List.append, Op.operands, dif_pos, gA, Call.operands, gB, gC, gD, gE, gF, gG, Nat.reduceMul, reduceCtorEq, Nat.reduceBEq, Nat.reduceAdd, Nat.reduceLT, Nat.reduceLeDiff, Nat.reduceSub, Nat.reduceEqDiff, bq, tgs, vq]
            refine hW.takeF 16383 14 32767 _ (by kernel_rfl) ?_
            simp only [vone, vall, vpure, vfld, isFld, List.replicate, List.set, List.map, List.any, List.append, Op.operands, dif_pos, gA, Call.operands, gB, gC, gD, gE, gF, gG, Nat.reduceMul, reduceCtorEq, Nat.reduceBEq, Nat.reduceAdd, Nat.reduceLT, Nat.reduceLeDiff, Nat.reduceSub, Nat.reduceEqDiff, bq, tgs, vq]
            exact t32767.h
        · skip
          refine hW.all 32767 [(15, 65535)] _ (by kernel_rfl) (by simp) ?_
          simp only [vone, vall, vpure, vfld, isFld, List.replicate, List.set, List.map, List.any, List.append, Op.operands, dif_pos, gA, Call.operands, gB, gC, gD, gE, gF, gG, Nat.reduceMul, reduceCtorEq, Nat.reduceBEq, Nat.reduceAdd, Nat.reduceLT, Nat.reduceLeDiff, Nat.reduceSub, Nat.reduceEqDiff, bq, tgs, vq]
          skip
          exact t65535.h
      · skip
        refine hW.done 65535 _ (by kernel_rfl) ?_
        exact tK.h
    · refine hK _ ?_
      show vthen _ _ _ .normal _
      refine vthen_n ?_
      repeat refine VW.seq ?_
      refine VW.regl hT fun K hK => ?_
      simp only [List.replicate, List.set, List.map, List.any, List.append, Op.operands, dif_pos, gA, Call.operands, gB, gC, gD, gE, gF, gG, Nat.reduceMul, reduceCtorEq, Nat.reduceBEq, Nat.reduceAdd, Nat.reduceLT, Nat.reduceLeDiff, Nat.reduceSub, Nat.reduceEqDiff, bq, tgs, vq]
      refine hK _ ?_
      clear hK K
      try refine vthen_n ?_
      refine ⟨i + 1, hlt, ?_, by show s.length - (i + 1) < s.length - i; omega⟩
      simp only [norm, homeOne, moveTo, keepS, keepGo, usesOut, List.foldl, ren, renC, List.replicate, List.set, List.map, List.any, List.append, Op.operands, dif_pos, gA, Call.operands, gB, gC, gD, gE, gF, gG, Nat.reduceMul, reduceCtorEq, Nat.reduceBEq, Nat.reduceAdd, Nat.reduceLT, Nat.reduceLeDiff, Nat.reduceSub, Nat.reduceEqDiff, bq, tgs, vq]
      rw [wrap64 (by omega) (by omega), memTo_succ hlt, hN, hrep]
      rfl
  · have hge : i = s.length := by
      have : s.length ≤ i := by simpa using hc
      omega
    subst hge
    refine VW.exit ?_
    show vthen _ _ _ .normal _
    refine vthen_n ?_
    repeat refine VW.seq ?_
    refine VW.regl hT fun K hK => ?_
    simp only [List.replicate, List.set, List.map, List.any, List.append, Op.operands, dif_pos, gA, Call.operands, gB, gC, gD, gE, gF, gG, Nat.reduceMul, reduceCtorEq, Nat.reduceBEq, Nat.reduceAdd, Nat.reduceLT, Nat.reduceLeDiff, Nat.reduceSub, Nat.reduceEqDiff, bq, tgs, vq]
    refine hK _ ?_
    clear hK K
    try refine vthen_n ?_
    refine VW.ret ⟨.inl rfl, _, rfl, ?_⟩
    have hn : newOk t s = true := by
      rw [newOk, hf, Bool.true_and, Bool.not_eq_true', List.any_eq_false]
      intro x hx
      obtain ⟨j, h1, h2⟩ := List.getElem_of_mem hx
      have := h64 j h1
      rw [List.getD_eq_getElem?_getD, List.getElem?_eq_getElem h1] at this
      have : s[j] ≤ 64 := this.2
      rw [h2] at this
      simpa using this
    rw [if_pos hn]
    rfl
end Go.Proofs.Ytmechjnfeidnkaa.V.W

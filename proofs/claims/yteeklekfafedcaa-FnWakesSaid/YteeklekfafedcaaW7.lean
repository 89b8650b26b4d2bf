/- impl.SlotsOf, AddNode, CountBridges, laws.has, laws.big walked. No condition. -/
import Derived.Test.YteeklekfafedcaaW6
set_option linter.unusedVariables false
set_option linter.unnecessarySimpa false
set_option linter.unusedSimpArgs false
namespace Go.Proofs.Yteeklekfafedcaa.V.W
open Go Go.RowKit
set_option maxRecDepth 20000 in
theorem has_vc (xs : List Int) (n : Int) (hl : xs.length ≤ 1000000) : VC Try.prog 59 [.v false sI xs, .v false (.int .i64) (n)] (· = .v false .bool (xs.contains n)) := by
  refine VC.of_body hT Try.func59 rfl (by kernel_rfl) [(.tmp 4, false, .bool)] (by kernel_rfl) ?_
  show VW _ _ ([.v false sI xs, .v false (.int .i64) (n), D, D, D, D, D, D, D, D, D, D, D, D, D, D, D, D]) _
  repeat refine VW.seq ?_
  refine VW.regl hT fun K hK => ?_
  simp only [Sh.size, fillRow, fillSt, noH, PV.isH, Fl.sub, PV.isEmp, List.replicate, Nat.reduceMul, emp1, headRow, rowOf, nilTest, V.take, V.drop, usesG, capUses, emp0, hdv, vops, vguard, vread, vdraw, vreadD, pop, ref, ev, cvalue, nonroot, PV.isRoot, setD, List.set, lenOf, binop, intop, reduceCtorEq, capsOf, cOf, look, get, lendCaps, lendAll, lend, lendCap, okRes, isAdr, capPV, List.map, List.any, List.append, mentOk, ments, Op.operands, loaded, Sh.plain, Fl.allfz, grab, upd, hit, V.put, unop, eqop, Fl.good, Fl.sound, Fl.l, Fl.r, Fl.el, fpath, Sh.zero, bound, Path.pre, below, skipPV, dif_pos, Nat.reduceBEq, vb_tt, vb_tf, vb_ft, vb_ff, List.getElem?_toArray, Call.operands, List.filterMap_nil, List.filterMap_cons, Nat.reduceAdd, List.contains_cons, Nat.reduceLT, Nat.reduceLeDiff, Nat.reduceSub, Nat.reduceEqDiff, Fl.wr, hitS, xback, lendX, vmix, pureOp, Fl.nofz, vio, vxgo, vmv, capOut, vs_a, vs_b, vs_c, vfloat, capBelow, Fl.unio, keepZ, nilP, moveTup, bq, tgs, List.getElem?_cons_succ, List.getElem?_cons_zero, Option.bind_some]
  refine hK _ ?_
  clear hK K
  try refine vthen_n ?_
  repeat refine VW.seq ?_
  refine VW.regl hT fun K hK => ?_
  simp only [Sh.size, fillRow, fillSt, noH, PV.isH, Fl.sub, PV.isEmp, List.replicate, Nat.reduceMul, emp1, headRow, rowOf, nilTest, V.take, V.drop, usesG, capUses, emp0, hdv, vops, vguard, vread, vdraw, vreadD, pop, ref, ev, cvalue, nonroot, PV.isRoot, setD, List.set, lenOf, binop, intop, reduceCtorEq, capsOf, cOf, look, get, lendCaps, lendAll, lend, lendCap, okRes, isAdr, capPV, List.map, List.any, List.append, mentOk, ments, Op.operands, loaded, Sh.plain, Fl.allfz, grab, upd, hit, V.put, unop, eqop, Fl.good, Fl.sound, Fl.l, Fl.r, Fl.el, fpath, Sh.zero, bound, Path.pre, below, skipPV, dif_pos, Nat.reduceBEq, vb_tt, vb_tf, vb_ft, vb_ff, List.getElem?_toArray, Call.operands, List.filterMap_nil, List.filterMap_cons, Nat.reduceAdd, List.contains_cons, Nat.reduceLT, Nat.reduceLeDiff, Nat.reduceSub, Nat.reduceEqDiff, Fl.wr, hitS, xback, lendX, vmix, pureOp, Fl.nofz, vio, vxgo, vmv, capOut, vs_a, vs_b, vs_c, vfloat, capBelow, Fl.unio, keepZ, nilP, moveTup, bq, tgs, List.getElem?_cons_succ, List.getElem?_cons_zero, Option.bind_some]
  refine hK _ ?_
  clear hK K
  try refine vthen_n ?_
  repeat refine VW.seq ?_
  refine VW.block ?_
  refine VW.loop (α := Nat) [(0, none), (1, none), (5, none)] (fun i => [.v false sI xs, .v false (.int .i64) (n), D, D, D, .v false (.int .i64) (i), D, D, D, D, D, D, D, D, D, D, D, D]) (fun i => i ≤ xs.length ∧ ∀ k, k < i → xs.getD k 0 ≠ n) (fun i => xs.length - i) ⟨0, ⟨by omega, fun k hk => by omega⟩, ?_⟩ fun i ⟨hi, hk⟩ => ?_
  · simp only [norm, homeOne, moveTo, keepS, keepGo, usesOut, List.foldl, ren, renC, Sh.size, fillRow, fillSt, noH, PV.isH, Fl.sub, PV.isEmp, List.replicate, Nat.reduceMul, emp1, headRow, rowOf, nilTest, V.take, V.drop, usesG, capUses, emp0, hdv, vops, vguard, vread, vdraw, vreadD, pop, ref, ev, cvalue, nonroot, PV.isRoot, setD, List.set, lenOf, binop, intop, reduceCtorEq, capsOf, cOf, look, get, lendCaps, lendAll, lend, lendCap, okRes, isAdr, capPV, List.map, List.any, List.append, mentOk, ments, Op.operands, loaded, Sh.plain, Fl.allfz, grab, upd, hit, V.put, unop, eqop, Fl.good, Fl.sound, Fl.l, Fl.r, Fl.el, fpath, Sh.zero, bound, Path.pre, below, skipPV, dif_pos, Nat.reduceBEq, vb_tt, vb_tf, vb_ft, vb_ff, List.getElem?_toArray, Call.operands, List.filterMap_nil, List.filterMap_cons, Nat.reduceAdd, List.contains_cons, Nat.reduceLT, Nat.reduceLeDiff, Nat.reduceSub, Nat.reduceEqDiff, Fl.wr, hitS, xback, lendX, vmix, pureOp, Fl.nofz, vio, vxgo, vmv, capOut, vs_a, vs_b, vs_c, vfloat, capBelow, Fl.unio, keepZ, nilP, moveTup, bq, tgs, List.getElem?_cons_succ, List.getElem?_cons_zero, Option.bind_some]
    rfl
  repeat refine VW.seq ?_
  refine VW.regl hT fun K hK => ?_
  simp only [Sh.size, fillRow, fillSt, noH, PV.isH, Fl.sub, PV.isEmp, List.replicate, Nat.reduceMul, emp1, headRow, rowOf, nilTest, V.take, V.drop, usesG, capUses, emp0, hdv, vops, vguard, vread, vdraw, vreadD, pop, ref, ev, cvalue, nonroot, PV.isRoot, setD, List.set, lenOf, binop, intop, reduceCtorEq, capsOf, cOf, look, get, lendCaps, lendAll, lend, lendCap, okRes, isAdr, capPV, List.map, List.any, List.append, mentOk, ments, Op.operands, loaded, Sh.plain, Fl.allfz, grab, upd, hit, V.put, unop, eqop, Fl.good, Fl.sound, Fl.l, Fl.r, Fl.el, fpath, Sh.zero, bound, Path.pre, below, skipPV, dif_pos, Nat.reduceBEq, vb_tt, vb_tf, vb_ft, vb_ff, List.getElem?_toArray, Call.operands, List.filterMap_nil, List.filterMap_cons, Nat.reduceAdd, List.contains_cons, Nat.reduceLT, Nat.reduceLeDiff, Nat.reduceSub, Nat.reduceEqDiff, Fl.wr, hitS, xback, lendX, vmix, pureOp, Fl.nofz, vio, vxgo, vmv, capOut, vs_a, vs_b, vs_c, vfloat, capBelow, Fl.unio, keepZ, nilP, moveTup, bq, tgs, List.getElem?_cons_succ, List.getElem?_cons_zero, Option.bind_some]
  refine hK _ ?_
  clear hK K
  try refine vthen_n ?_
  repeat refine VW.seq ?_
  refine VW.cond rfl (fun hc => ?_) (fun hc => ?_)
  · have hlt : i < xs.length := by simpa using hc
    refine VW.skip (vthen_n ?_)
    repeat refine VW.seq ?_
    refine VW.block ?_
    repeat refine VW.seq ?_
    refine VW.regl hT fun K hK => ?_
    simp only [Sh.size, fillRow, fillSt, noH, PV.isH, Fl.sub, PV.isEmp, List.replicate, Nat.reduceMul, emp1, headRow, rowOf, nilTest, V.take, V.drop, usesG, capUses, emp0, hdv, vops, vguard, vread, vdraw, vreadD, pop, ref, ev, cvalue, nonroot, PV.isRoot, setD, List.set, lenOf, binop, intop, reduceCtorEq, capsOf, cOf, look, get, lendCaps, lendAll, lend, lendCap, okRes, isAdr, capPV, List.map, List.any, List.append, mentOk, ments, Op.operands, loaded, Sh.plain, Fl.allfz, grab, upd, hit, V.put, unop, eqop, Fl.good, Fl.sound, Fl.l, Fl.r, Fl.el, fpath, Sh.zero, bound, Path.pre, below, skipPV, dif_pos, Nat.reduceBEq, vb_tt, vb_tf, vb_ft, vb_ff, List.getElem?_toArray, Call.operands, List.filterMap_nil, List.filterMap_cons, Nat.reduceAdd, List.contains_cons, Nat.reduceLT, Nat.reduceLeDiff, Nat.reduceSub, Nat.reduceEqDiff, Fl.wr, hitS, xback, lendX, vmix, pureOp, Fl.nofz, vio, vxgo, vmv, capOut, vs_a, vs_b, vs_c, vfloat, capBelow, Fl.unio, keepZ, nilP, moveTup, bq, tgs, List.getElem?_cons_succ, List.getElem?_cons_zero, Option.bind_some]
    refine ⟨by simp; omega, ?_⟩
    refine hK _ ?_
    clear hK K
    try refine vthen_n ?_
    repeat refine VW.seq ?_
    refine VW.cond rfl (fun hc => ?_) (fun hc => ?_)
    · repeat refine VW.seq ?_
      refine VW.regl hT fun K hK => ?_
      simp only [Sh.size, fillRow, fillSt, noH, PV.isH, Fl.sub, PV.isEmp, List.replicate, Nat.reduceMul, emp1, headRow, rowOf, nilTest, V.take, V.drop, usesG, capUses, emp0, hdv, vops, vguard, vread, vdraw, vreadD, pop, ref, ev, cvalue, nonroot, PV.isRoot, setD, List.set, lenOf, binop, intop, reduceCtorEq, capsOf, cOf, look, get, lendCaps, lendAll, lend, lendCap, okRes, isAdr, capPV, List.map, List.any, List.append, mentOk, ments, Op.operands, loaded, Sh.plain, Fl.allfz, grab, upd, hit, V.put, unop, eqop, Fl.good, Fl.sound, Fl.l, Fl.r, Fl.el, fpath, Sh.zero, bound, Path.pre, below, skipPV, dif_pos, Nat.reduceBEq, vb_tt, vb_tf, vb_ft, vb_ff, List.getElem?_toArray, Call.operands, List.filterMap_nil, List.filterMap_cons, Nat.reduceAdd, List.contains_cons, Nat.reduceLT, Nat.reduceLeDiff, Nat.reduceSub, Nat.reduceEqDiff, Fl.wr, hitS, xback, lendX, vmix, pureOp, Fl.nofz, vio, vxgo, vmv, capOut, vs_a, vs_b, vs_c, vfloat, capBelow, Fl.unio, keepZ, nilP, moveTup, bq, tgs, List.getElem?_cons_succ, List.getElem?_cons_zero, Option.bind_some]
      refine hK _ ?_
      clear hK K
      try refine vthen_n ?_
      refine VW.ret ⟨.inl rfl, _, rfl, ?_⟩
      have e : xs.getD i 0 = n := by simpa using hc
      have : xs.contains n = true := by
        rw [List.contains_iff_mem, ← e, List.getD_eq_getElem?_getD, List.getElem?_eq_getElem hlt]
        exact List.getElem_mem _
      rw [this]
    · refine VW.skip ?_
      show vthen _ _ _ .normal _
      refine vthen_n ?_
      repeat refine VW.seq ?_
      refine VW.regl hT fun K hK => ?_
      simp only [Sh.size, fillRow, fillSt, noH, PV.isH, Fl.sub, PV.isEmp, List.replicate, Nat.reduceMul, emp1, headRow, rowOf, nilTest, V.take, V.drop, usesG, capUses, emp0, hdv, vops, vguard, vread, vdraw, vreadD, pop, ref, ev, cvalue, nonroot, PV.isRoot, setD, List.set, lenOf, binop, intop, reduceCtorEq, capsOf, cOf, look, get, lendCaps, lendAll, lend, lendCap, okRes, isAdr, capPV, List.map, List.any, List.append, mentOk, ments, Op.operands, loaded, Sh.plain, Fl.allfz, grab, upd, hit, V.put, unop, eqop, Fl.good, Fl.sound, Fl.l, Fl.r, Fl.el, fpath, Sh.zero, bound, Path.pre, below, skipPV, dif_pos, Nat.reduceBEq, vb_tt, vb_tf, vb_ft, vb_ff, List.getElem?_toArray, Call.operands, List.filterMap_nil, List.filterMap_cons, Nat.reduceAdd, List.contains_cons, Nat.reduceLT, Nat.reduceLeDiff, Nat.reduceSub, Nat.reduceEqDiff, Fl.wr, hitS, xback, lendX, vmix, pureOp, Fl.nofz, vio, vxgo, vmv, capOut, vs_a, vs_b, vs_c, vfloat, capBelow, Fl.unio, keepZ, nilP, moveTup, bq, tgs, List.getElem?_cons_succ, List.getElem?_cons_zero, Option.bind_some]
      refine hK _ ?_
      clear hK K
      try refine vthen_n ?_
      refine ⟨i + 1, ⟨hlt, fun k h => ?_⟩, ?_, by show xs.length - (i + 1) < xs.length - i; omega⟩
      · rcases Nat.lt_or_ge k i with h1 | h1
        · exact hk k h1
        · obtain rfl : k = i := by omega
          simpa using hc
      · simp only [norm, homeOne, moveTo, keepS, keepGo, usesOut, List.foldl, ren, renC, Sh.size, fillRow, fillSt, noH, PV.isH, Fl.sub, PV.isEmp, List.replicate, Nat.reduceMul, emp1, headRow, rowOf, nilTest, V.take, V.drop, usesG, capUses, emp0, hdv, vops, vguard, vread, vdraw, vreadD, pop, ref, ev, cvalue, nonroot, PV.isRoot, setD, List.set, lenOf, binop, intop, reduceCtorEq, capsOf, cOf, look, get, lendCaps, lendAll, lend, lendCap, okRes, isAdr, capPV, List.map, List.any, List.append, mentOk, ments, Op.operands, loaded, Sh.plain, Fl.allfz, grab, upd, hit, V.put, unop, eqop, Fl.good, Fl.sound, Fl.l, Fl.r, Fl.el, fpath, Sh.zero, bound, Path.pre, below, skipPV, dif_pos, Nat.reduceBEq, vb_tt, vb_tf, vb_ft, vb_ff, List.getElem?_toArray, Call.operands, List.filterMap_nil, List.filterMap_cons, Nat.reduceAdd, List.contains_cons, Nat.reduceLT, Nat.reduceLeDiff, Nat.reduceSub, Nat.reduceEqDiff, Fl.wr, hitS, xback, lendX, vmix, pureOp, Fl.nofz, vio, vxgo, vmv, capOut, vs_a, vs_b, vs_c, vfloat, capBelow, Fl.unio, keepZ, nilP, moveTup, bq, tgs, List.getElem?_cons_succ, List.getElem?_cons_zero, Option.bind_some]
        rw [wrap64 (by omega) (by omega)]
        rfl
  · have hge : xs.length ≤ i := by simpa using hc
    refine VW.exit ?_
    show vthen _ _ _ .normal _
    refine vthen_n ?_
    repeat refine VW.seq ?_
    refine VW.regl hT fun K hK => ?_
    simp only [Sh.size, fillRow, fillSt, noH, PV.isH, Fl.sub, PV.isEmp, List.replicate, Nat.reduceMul, emp1, headRow, rowOf, nilTest, V.take, V.drop, usesG, capUses, emp0, hdv, vops, vguard, vread, vdraw, vreadD, pop, ref, ev, cvalue, nonroot, PV.isRoot, setD, List.set, lenOf, binop, intop, reduceCtorEq, capsOf, cOf, look, get, lendCaps, lendAll, lend, lendCap, okRes, isAdr, capPV, List.map, List.any, List.append, mentOk, ments, Op.operands, loaded, Sh.plain, Fl.allfz, grab, upd, hit, V.put, unop, eqop, Fl.good, Fl.sound, Fl.l, Fl.r, Fl.el, fpath, Sh.zero, bound, Path.pre, below, skipPV, dif_pos, Nat.reduceBEq, vb_tt, vb_tf, vb_ft, vb_ff, List.getElem?_toArray, Call.operands, List.filterMap_nil, List.filterMap_cons, Nat.reduceAdd, List.contains_cons, Nat.reduceLT, Nat.reduceLeDiff, Nat.reduceSub, Nat.reduceEqDiff, Fl.wr, hitS, xback, lendX, vmix, pureOp, Fl.nofz, vio, vxgo, vmv, capOut, vs_a, vs_b, vs_c, vfloat, capBelow, Fl.unio, keepZ, nilP, moveTup, bq, tgs, List.getElem?_cons_succ, List.getElem?_cons_zero, Option.bind_some]
    refine hK _ ?_
    clear hK K
    try refine vthen_n ?_
    refine VW.ret ⟨.inl rfl, _, rfl, ?_⟩
    have : xs.contains n = false := by
      rw [← Bool.not_eq_true, List.contains_iff_mem]
      intro hm
      obtain ⟨k, hk1, hk2⟩ := List.mem_iff_getElem.1 hm
      refine hk k (by omega) ?_
      rw [List.getD_eq_getElem?_getD, List.getElem?_eq_getElem hk1]; exact hk2
    rw [this]
def bridges (t : List Nd) (i : Nat) : Int := ((t.take i).filter fun n => n.2.2 == 0).length
theorem bridges_succ {t : List Nd} {i : Nat} (h : i < t.length) : bridges t (i + 1) = bridges t i + (if ((t.getD i z).2.2 == 0) = true then 1 else 0) := by
  unfold bridges
  rw [List.take_add_one, List.getElem?_eq_getElem h, List.filter_append, List.length_append, List.getD_eq_getElem?_getD, List.getElem?_eq_getElem h]
  simp only [Option.toList, Option.getD_some, List.filter_cons, List.filter_nil]
  split <;> simp
theorem bridges_le (t : List Nd) (i : Nat) : 0 ≤ bridges t i ∧ bridges t i ≤ i := by
  unfold bridges
  have := List.length_filter_le (fun n : Nd => n.2.2 == 0) (t.take i)
  rw [List.length_take] at this
  omega
set_option maxRecDepth 20000 in
theorem count_vc (t : List Nd) (hl : t.length ≤ 1000000) : VC Try.prog 63 [.v false sNS t] (· = .v false (.int .i64) (bridges t t.length)) := by
  refine VC.of_body hT Try.func63 rfl (by kernel_rfl) [(.tmp 2, false, .int .i64)] (by kernel_rfl) ?_
  show VW _ _ ([.v false sNS t, D, D, D, D, D, D, D, D, D, D, D, D, D, D, D, D, D, D]) _
  repeat refine VW.seq ?_
  refine VW.regl hT fun K hK => ?_
  simp only [Sh.size, fillRow, fillSt, noH, PV.isH, Fl.sub, PV.isEmp, List.replicate, Nat.reduceMul, emp1, headRow, rowOf, nilTest, V.take, V.drop, usesG, capUses, emp0, hdv, vops, vguard, vread, vdraw, vreadD, pop, ref, ev, cvalue, nonroot, PV.isRoot, setD, List.set, lenOf, binop, intop, reduceCtorEq, capsOf, cOf, look, get, lendCaps, lendAll, lend, lendCap, okRes, isAdr, capPV, List.map, List.any, List.append, mentOk, ments, Op.operands, loaded, Sh.plain, Fl.allfz, grab, upd, hit, V.put, unop, eqop, Fl.good, Fl.sound, Fl.l, Fl.r, Fl.el, fpath, Sh.zero, bound, Path.pre, below, skipPV, dif_pos, Nat.reduceBEq, vb_tt, vb_tf, vb_ft, vb_ff, List.getElem?_toArray, Call.operands, List.filterMap_nil, List.filterMap_cons, Nat.reduceAdd, List.contains_cons, Nat.reduceLT, Nat.reduceLeDiff, Nat.reduceSub, Nat.reduceEqDiff, Fl.wr, hitS, xback, lendX, vmix, pureOp, Fl.nofz, vio, vxgo, vmv, capOut, vs_a, vs_b, vs_c, vfloat, capBelow, Fl.unio, keepZ, nilP, moveTup, bq, tgs, List.getElem?_cons_succ, List.getElem?_cons_zero, Option.bind_some]
  refine hK _ ?_
  clear hK K
  try refine vthen_n ?_
  repeat refine VW.seq ?_
  refine VW.regl hT fun K hK => ?_
  simp only [Sh.size, fillRow, fillSt, noH, PV.isH, Fl.sub, PV.isEmp, List.replicate, Nat.reduceMul, emp1, headRow, rowOf, nilTest, V.take, V.drop, usesG, capUses, emp0, hdv, vops, vguard, vread, vdraw, vreadD, pop, ref, ev, cvalue, nonroot, PV.isRoot, setD, List.set, lenOf, binop, intop, reduceCtorEq, capsOf, cOf, look, get, lendCaps, lendAll, lend, lendCap, okRes, isAdr, capPV, List.map, List.any, List.append, mentOk, ments, Op.operands, loaded, Sh.plain, Fl.allfz, grab, upd, hit, V.put, unop, eqop, Fl.good, Fl.sound, Fl.l, Fl.r, Fl.el, fpath, Sh.zero, bound, Path.pre, below, skipPV, dif_pos, Nat.reduceBEq, vb_tt, vb_tf, vb_ft, vb_ff, List.getElem?_toArray, Call.operands, List.filterMap_nil, List.filterMap_cons, Nat.reduceAdd, List.contains_cons, Nat.reduceLT, Nat.reduceLeDiff, Nat.reduceSub, Nat.reduceEqDiff, Fl.wr, hitS, xback, lendX, vmix, pureOp, Fl.nofz, vio, vxgo, vmv, capOut, vs_a, vs_b, vs_c, vfloat, capBelow, Fl.unio, keepZ, nilP, moveTup, bq, tgs, List.getElem?_cons_succ, List.getElem?_cons_zero, Option.bind_some]
  refine hK _ ?_
  clear hK K
  try refine vthen_n ?_
  repeat refine VW.seq ?_
  refine VW.regl hT fun K hK => ?_
  simp only [Sh.size, fillRow, fillSt, noH, PV.isH, Fl.sub, PV.isEmp, List.replicate, Nat.reduceMul, emp1, headRow, rowOf, nilTest, V.take, V.drop, usesG, capUses, emp0, hdv, vops, vguard, vread, vdraw, vreadD, pop, ref, ev, cvalue, nonroot, PV.isRoot, setD, List.set, lenOf, binop, intop, reduceCtorEq, capsOf, cOf, look, get, lendCaps, lendAll, lend, lendCap, okRes, isAdr, capPV, List.map, List.any, List.append, mentOk, ments, Op.operands, loaded, Sh.plain, Fl.allfz, grab, upd, hit, V.put, unop, eqop, Fl.good, Fl.sound, Fl.l, Fl.r, Fl.el, fpath, Sh.zero, bound, Path.pre, below, skipPV, dif_pos, Nat.reduceBEq, vb_tt, vb_tf, vb_ft, vb_ff, List.getElem?_toArray, Call.operands, List.filterMap_nil, List.filterMap_cons, Nat.reduceAdd, List.contains_cons, Nat.reduceLT, Nat.reduceLeDiff, Nat.reduceSub, Nat.reduceEqDiff, Fl.wr, hitS, xback, lendX, vmix, pureOp, Fl.nofz, vio, vxgo, vmv, capOut, vs_a, vs_b, vs_c, vfloat, capBelow, Fl.unio, keepZ, nilP, moveTup, bq, tgs, List.getElem?_cons_succ, List.getElem?_cons_zero, Option.bind_some]
  refine hK _ ?_
  clear hK K
  try refine vthen_n ?_
  repeat refine VW.seq ?_
  refine VW.block ?_
  refine VW.loop (α := Nat) [(3, none), (6, none), (7, none), (8, none)] (fun i => [D, D, D, .v false (.int .i64) (bridges t i), D, D, .v false sNS t, .v false (.int .i64) (t.length), .v false (.int .i64) (i), D, D, D, D, D, D, D, D, D, D]) (fun i => i ≤ t.length) (fun i => t.length - i) ⟨0, by omega, ?_⟩ fun i hi => ?_
  · simp only [norm, homeOne, moveTo, keepS, keepGo, usesOut, List.foldl, ren, renC, Sh.size, fillRow, fillSt, noH, PV.isH, Fl.sub, PV.isEmp, List.replicate, Nat.reduceMul, emp1, headRow, rowOf, nilTest, V.take, V.drop, usesG, capUses, emp0, hdv, vops, vguard, vread, vdraw, vreadD, pop, ref, ev, cvalue, nonroot, PV.isRoot, setD, List.set, lenOf, binop, intop, reduceCtorEq, capsOf, cOf, look, get, lendCaps, lendAll, lend, lendCap, okRes, isAdr, capPV, List.map, List.any, List.append, mentOk, ments, Op.operands, loaded, Sh.plain, Fl.allfz, grab, upd, hit, V.put, unop, eqop, Fl.good, Fl.sound, Fl.l, Fl.r, Fl.el, fpath, Sh.zero, bound, Path.pre, below, skipPV, dif_pos, Nat.reduceBEq, vb_tt, vb_tf, vb_ft, vb_ff, List.getElem?_toArray, Call.operands, List.filterMap_nil, List.filterMap_cons, Nat.reduceAdd, List.contains_cons, Nat.reduceLT, Nat.reduceLeDiff, Nat.reduceSub, Nat.reduceEqDiff, Fl.wr, hitS, xback, lendX, vmix, pureOp, Fl.nofz, vio, vxgo, vmv, capOut, vs_a, vs_b, vs_c, vfloat, capBelow, Fl.unio, keepZ, nilP, moveTup, bq, tgs, List.getElem?_cons_succ, List.getElem?_cons_zero, Option.bind_some]
    rfl
  repeat refine VW.seq ?_
  refine VW.regl hT fun K hK => ?_
  simp only [Sh.size, fillRow, fillSt, noH, PV.isH, Fl.sub, PV.isEmp, List.replicate, Nat.reduceMul, emp1, headRow, rowOf, nilTest, V.take, V.drop, usesG, capUses, emp0, hdv, vops, vguard, vread, vdraw, vreadD, pop, ref, ev, cvalue, nonroot, PV.isRoot, setD, List.set, lenOf, binop, intop, reduceCtorEq, capsOf, cOf, look, get, lendCaps, lendAll, lend, lendCap, okRes, isAdr, capPV, List.map, List.any, List.append, mentOk, ments, Op.operands, loaded, Sh.plain, Fl.allfz, grab, upd, hit, V.put, unop, eqop, Fl.good, Fl.sound, Fl.l, Fl.r, Fl.el, fpath, Sh.zero, bound, Path.pre, below, skipPV, dif_pos, Nat.reduceBEq, vb_tt, vb_tf, vb_ft, vb_ff, List.getElem?_toArray, Call.operands, List.filterMap_nil, List.filterMap_cons, Nat.reduceAdd, List.contains_cons, Nat.reduceLT, Nat.reduceLeDiff, Nat.reduceSub, Nat.reduceEqDiff, Fl.wr, hitS, xback, lendX, vmix, pureOp, Fl.nofz, vio, vxgo, vmv, capOut, vs_a, vs_b, vs_c, vfloat, capBelow, Fl.unio, keepZ, nilP, moveTup, bq, tgs, List.getElem?_cons_succ, List.getElem?_cons_zero, Option.bind_some]
  refine hK _ ?_
  clear hK K
  try refine vthen_n ?_
  repeat refine VW.seq ?_
  refine VW.cond rfl (fun hc => ?_) (fun hc => ?_)
  · have hlt : i < t.length := by simpa using hc
    have hb := bridges_le t i
    refine VW.skip (vthen_n ?_)
    repeat refine VW.seq ?_
    refine VW.block ?_
    repeat refine VW.seq ?_
    refine VW.regl hT fun K hK => ?_
    simp only [Sh.size, fillRow, fillSt, noH, PV.isH, Fl.sub, PV.isEmp, List.replicate, Nat.reduceMul, emp1, headRow, rowOf, nilTest, V.take, V.drop, usesG, capUses, emp0, hdv, vops, vguard, vread, vdraw, vreadD, pop, ref, ev, cvalue, nonroot, PV.isRoot, setD, List.set, lenOf, binop, intop, reduceCtorEq, capsOf, cOf, look, get, lendCaps, lendAll, lend, lendCap, okRes, isAdr, capPV, List.map, List.any, List.append, mentOk, ments, Op.operands, loaded, Sh.plain, Fl.allfz, grab, upd, hit, V.put, unop, eqop, Fl.good, Fl.sound, Fl.l, Fl.r, Fl.el, fpath, Sh.zero, bound, Path.pre, below, skipPV, dif_pos, Nat.reduceBEq, vb_tt, vb_tf, vb_ft, vb_ff, List.getElem?_toArray, Call.operands, List.filterMap_nil, List.filterMap_cons, Nat.reduceAdd, List.contains_cons, Nat.reduceLT, Nat.reduceLeDiff, Nat.reduceSub, Nat.reduceEqDiff, Fl.wr, hitS, xback, lendX, vmix, pureOp, Fl.nofz, vio, vxgo, vmv, capOut, vs_a, vs_b, vs_c, vfloat, capBelow, Fl.unio, keepZ, nilP, moveTup, bq, tgs, List.getElem?_cons_succ, List.getElem?_cons_zero, Option.bind_some]
    refine ⟨by simp; omega, ?_⟩
    refine hK _ ?_
    clear hK K
    try refine vthen_n ?_
    repeat refine VW.seq ?_
    refine VW.regl hT fun K hK => ?_
    simp only [Sh.size, fillRow, fillSt, noH, PV.isH, Fl.sub, PV.isEmp, List.replicate, Nat.reduceMul, emp1, headRow, rowOf, nilTest, V.take, V.drop, usesG, capUses, emp0, hdv, vops, vguard, vread, vdraw, vreadD, pop, ref, ev, cvalue, nonroot, PV.isRoot, setD, List.set, lenOf, binop, intop, reduceCtorEq, capsOf, cOf, look, get, lendCaps, lendAll, lend, lendCap, okRes, isAdr, capPV, List.map, List.any, List.append, mentOk, ments, Op.operands, loaded, Sh.plain, Fl.allfz, grab, upd, hit, V.put, unop, eqop, Fl.good, Fl.sound, Fl.l, Fl.r, Fl.el, fpath, Sh.zero, bound, Path.pre, below, skipPV, dif_pos, Nat.reduceBEq, vb_tt, vb_tf, vb_ft, vb_ff, List.getElem?_toArray, Call.operands, List.filterMap_nil, List.filterMap_cons, Nat.reduceAdd, List.contains_cons, Nat.reduceLT, Nat.reduceLeDiff, Nat.reduceSub, Nat.reduceEqDiff, Fl.wr, hitS, xback, lendX, vmix, pureOp, Fl.nofz, vio, vxgo, vmv, capOut, vs_a, vs_b, vs_c, vfloat, capBelow, Fl.unio, keepZ, nilP, moveTup, bq, tgs, List.getElem?_cons_succ, List.getElem?_cons_zero, Option.bind_some]
    refine hK _ ?_
    clear hK K
    try refine vthen_n ?_
    repeat refine VW.seq ?_
    refine VW.cond rfl (fun hc => ?_) (fun hc => ?_)
    · repeat refine VW.seq ?_
      refine VW.regl hT fun K hK => ?_
      simp only [Sh.size, fillRow, fillSt, noH, PV.isH, Fl.sub, PV.isEmp, List.replicate, Nat.reduceMul, emp1, headRow, rowOf, nilTest, V.take, V.drop, usesG, capUses, emp0, hdv, vops, vguard, vread, vdraw, vreadD, pop, ref, ev, cvalue, nonroot, PV.isRoot, setD, List.set, lenOf, binop, intop, reduceCtorEq, capsOf, cOf, look, get, lendCaps, lendAll, lend, lendCap, okRes, isAdr, capPV, List.map, List.any, List.append, mentOk, ments, Op.operands, loaded, Sh.plain, Fl.allfz, grab, upd, hit, V.put, unop, eqop, Fl.good, Fl.sound, Fl.l, Fl.r, Fl.el, fpath, Sh.zero, bound, Path.pre, below, skipPV, dif_pos, Nat.reduceBEq, vb_tt, vb_tf, vb_ft, vb_ff, List.getElem?_toArray, Call.operands, List.filterMap_nil, List.filterMap_cons, Nat.reduceAdd, List.contains_cons, Nat.reduceLT, Nat.reduceLeDiff, Nat.reduceSub, Nat.reduceEqDiff, Fl.wr, hitS, xback, lendX, vmix, pureOp, Fl.nofz, vio, vxgo, vmv, capOut, vs_a, vs_b, vs_c, vfloat, capBelow, Fl.unio, keepZ, nilP, moveTup, bq, tgs, List.getElem?_cons_succ, List.getElem?_cons_zero, Option.bind_some]
      refine hK _ ?_
      clear hK K
      try refine vthen_n ?_
      show vthen _ _ _ .normal _
      refine vthen_n ?_
      repeat refine VW.seq ?_
      refine VW.regl hT fun K hK => ?_
      simp only [Sh.size, fillRow, fillSt, noH, PV.isH, Fl.sub, PV.isEmp, List.replicate, Nat.reduceMul, emp1, headRow, rowOf, nilTest, V.take, V.drop, usesG, capUses, emp0, hdv, vops, vguard, vread, vdraw, vreadD, pop, ref, ev, cvalue, nonroot, PV.isRoot, setD, List.set, lenOf, binop, intop, reduceCtorEq, capsOf, cOf, look, get, lendCaps, lendAll, lend, lendCap, okRes, isAdr, capPV, List.map, List.any, List.append, mentOk, ments, Op.operands, loaded, Sh.plain, Fl.allfz, grab, upd, hit, V.put, unop, eqop, Fl.good, Fl.sound, Fl.l, Fl.r, Fl.el, fpath, Sh.zero, bound, Path.pre, below, skipPV, dif_pos, Nat.reduceBEq, vb_tt, vb_tf, vb_ft, vb_ff, List.getElem?_toArray, Call.operands, List.filterMap_nil, List.filterMap_cons, Nat.reduceAdd, List.contains_cons, Nat.reduceLT, Nat.reduceLeDiff, Nat.reduceSub, Nat.reduceEqDiff, Fl.wr, hitS, xback, lendX, vmix, pureOp, Fl.nofz, vio, vxgo, vmv, capOut, vs_a, vs_b, vs_c, vfloat, capBelow, Fl.unio, keepZ, nilP, moveTup, bq, tgs, List.getElem?_cons_succ, List.getElem?_cons_zero, Option.bind_some]
      refine hK _ ?_
      clear hK K
      try refine vthen_n ?_
      refine ⟨i + 1, hlt, ?_, by show t.length - (i + 1) < t.length - i; omega⟩
      simp only [norm, homeOne, moveTo, keepS, keepGo, usesOut, List.foldl, ren, renC, Sh.size, fillRow, fillSt, noH, PV.isH, Fl.sub, PV.isEmp, List.replicate, Nat.reduceMul, emp1, headRow, rowOf, nilTest, V.take, V.drop, usesG, capUses, emp0, hdv, vops, vguard, vread, vdraw, vreadD, pop, ref, ev, cvalue, nonroot, PV.isRoot, setD, List.set, lenOf, binop, intop, reduceCtorEq, capsOf, cOf, look, get, lendCaps, lendAll, lend, lendCap, okRes, isAdr, capPV, List.map, List.any, List.append, mentOk, ments, Op.operands, loaded, Sh.plain, Fl.allfz, grab, upd, hit, V.put, unop, eqop, Fl.good, Fl.sound, Fl.l, Fl.r, Fl.el, fpath, Sh.zero, bound, Path.pre, below, skipPV, dif_pos, Nat.reduceBEq, vb_tt, vb_tf, vb_ft, vb_ff, List.getElem?_toArray, Call.operands, List.filterMap_nil, List.filterMap_cons, Nat.reduceAdd, List.contains_cons, Nat.reduceLT, Nat.reduceLeDiff, Nat.reduceSub, Nat.reduceEqDiff, Fl.wr, hitS, xback, lendX, vmix, pureOp, Fl.nofz, vio, vxgo, vmv, capOut, vs_a, vs_b, vs_c, vfloat, capBelow, Fl.unio, keepZ, nilP, moveTup, bq, tgs, List.getElem?_cons_succ, List.getElem?_cons_zero, Option.bind_some]
      rw [wrap64 (by omega) (by omega), wrap64 (by omega) (by omega), bridges_succ hlt, if_pos hc]
      rfl
    · refine VW.skip ?_
      show vthen _ _ _ .normal _
      refine vthen_n ?_
      repeat refine VW.seq ?_
      refine VW.regl hT fun K hK => ?_
      simp only [Sh.size, fillRow, fillSt, noH, PV.isH, Fl.sub, PV.isEmp, List.replicate, Nat.reduceMul, emp1, headRow, rowOf, nilTest, V.take, V.drop, usesG, capUses, emp0, hdv, vops, vguard, vread, vdraw, vreadD, pop, ref, ev, cvalue, nonroot, PV.isRoot, setD, List.set, lenOf, binop, intop, reduceCtorEq, capsOf, cOf, look, get, lendCaps, lendAll, lend, lendCap, okRes, isAdr, capPV, List.map, List.any, List.append, mentOk, ments, Op.operands, loaded, Sh.plain, Fl.allfz, grab, upd, hit, V.put, unop, eqop, Fl.good, Fl.sound, Fl.l, Fl.r, Fl.el, fpath, Sh.zero, bound, Path.pre, below, skipPV, dif_pos, Nat.reduceBEq, vb_tt, vb_tf, vb_ft, vb_ff, List.getElem?_toArray, Call.operands, List.filterMap_nil, List.filterMap_cons, Nat.reduceAdd, List.contains_cons, Nat.reduceLT, Nat.reduceLeDiff, Nat.reduceSub, Nat.reduceEqDiff, Fl.wr, hitS, xback, lendX, vmix, pureOp, Fl.nofz, vio, vxgo, vmv, capOut, vs_a, vs_b, vs_c, vfloat, capBelow, Fl.unio, keepZ, nilP, moveTup, bq, tgs, List.getElem?_cons_succ, List.getElem?_cons_zero, Option.bind_some]
      refine hK _ ?_
      clear hK K
      try refine vthen_n ?_
      refine ⟨i + 1, hlt, ?_, by show t.length - (i + 1) < t.length - i; omega⟩
      simp only [norm, homeOne, moveTo, keepS, keepGo, usesOut, List.foldl, ren, renC, Sh.size, fillRow, fillSt, noH, PV.isH, Fl.sub, PV.isEmp, List.replicate, Nat.reduceMul, emp1, headRow, rowOf, nilTest, V.take, V.drop, usesG, capUses, emp0, hdv, vops, vguard, vread, vdraw, vreadD, pop, ref, ev, cvalue, nonroot, PV.isRoot, setD, List.set, lenOf, binop, intop, reduceCtorEq, capsOf, cOf, look, get, lendCaps, lendAll, lend, lendCap, okRes, isAdr, capPV, List.map, List.any, List.append, mentOk, ments, Op.operands, loaded, Sh.plain, Fl.allfz, grab, upd, hit, V.put, unop, eqop, Fl.good, Fl.sound, Fl.l, Fl.r, Fl.el, fpath, Sh.zero, bound, Path.pre, below, skipPV, dif_pos, Nat.reduceBEq, vb_tt, vb_tf, vb_ft, vb_ff, List.getElem?_toArray, Call.operands, List.filterMap_nil, List.filterMap_cons, Nat.reduceAdd, List.contains_cons, Nat.reduceLT, Nat.reduceLeDiff, Nat.reduceSub, Nat.reduceEqDiff, Fl.wr, hitS, xback, lendX, vmix, pureOp, Fl.nofz, vio, vxgo, vmv, capOut, vs_a, vs_b, vs_c, vfloat, capBelow, Fl.unio, keepZ, nilP, moveTup, bq, tgs, List.getElem?_cons_succ, List.getElem?_cons_zero, Option.bind_some]
      rw [wrap64 (by omega) (by omega), bridges_succ hlt, if_neg (by rw [show ((t.getD i z).2.2 == 0) = false from hc]; exact Bool.false_ne_true), Int.add_zero]
      rfl
  · have hge : t.length ≤ i := by simpa using hc
    obtain rfl : i = t.length := by omega
    refine VW.exit ?_
    show vthen _ _ _ .normal _
    refine vthen_n ?_
    repeat refine VW.seq ?_
    refine VW.regl hT fun K hK => ?_
    simp only [Sh.size, fillRow, fillSt, noH, PV.isH, Fl.sub, PV.isEmp, List.replicate, Nat.reduceMul, emp1, headRow, rowOf, nilTest, V.take, V.drop, usesG, capUses, emp0, hdv, vops, vguard, vread, vdraw, vreadD, pop, ref, ev, cvalue, nonroot, PV.isRoot, setD, List.set, lenOf, binop, intop, reduceCtorEq, capsOf, cOf, look, get, lendCaps, lendAll, lend, lendCap, okRes, isAdr, capPV, List.map, List.any, List.append, mentOk, ments, Op.operands, loaded, Sh.plain, Fl.allfz, grab, upd, hit, V.put, unop, eqop, Fl.good, Fl.sound, Fl.l, Fl.r, Fl.el, fpath, Sh.zero, bound, Path.pre, below, skipPV, dif_pos, Nat.reduceBEq, vb_tt, vb_tf, vb_ft, vb_ff, List.getElem?_toArray, Call.operands, List.filterMap_nil, List.filterMap_cons, Nat.reduceAdd, List.contains_cons, Nat.reduceLT, Nat.reduceLeDiff, Nat.reduceSub, Nat.reduceEqDiff, Fl.wr, hitS, xback, lendX, vmix, pureOp, Fl.nofz, vio, vxgo, vmv, capOut, vs_a, vs_b, vs_c, vfloat, capBelow, Fl.unio, keepZ, nilP, moveTup, bq, tgs, List.getElem?_cons_succ, List.getElem?_cons_zero, Option.bind_some]
    refine hK _ ?_
    clear hK K
    try refine vthen_n ?_
    exact VW.ret ⟨.inl rfl, _, rfl, rfl⟩
theorem clone_vc (t : List Nd) (hl : t.length ≤ 1000000) : VC Try.prog 110 [.v false sNS t] (· = .root (.val false) sNS .own t) := by
  refine VC.of_body hT Try.func110 rfl (by kernel_rfl) [(.tmp 2, false, sNS)] (by kernel_rfl) ?_
  show VW _ _ ([.v false sNS t, D, D, D, D, D, D, D]) _
  repeat refine VW.seq ?_
  refine VW.regl hT fun K hK => ?_
  simp only [Sh.size, fillRow, fillSt, noH, PV.isH, Fl.sub, PV.isEmp, List.replicate, Nat.reduceMul, emp1, headRow, rowOf, nilTest, V.take, V.drop, usesG, capUses, emp0, hdv, vops, vguard, vread, vdraw, vreadD, pop, ref, ev, cvalue, nonroot, PV.isRoot, setD, List.set, lenOf, binop, intop, reduceCtorEq, capsOf, cOf, look, get, lendCaps, lendAll, lend, lendCap, okRes, isAdr, capPV, List.map, List.any, List.append, mentOk, ments, Op.operands, loaded, Sh.plain, Fl.allfz, grab, upd, hit, V.put, unop, eqop, Fl.good, Fl.sound, Fl.l, Fl.r, Fl.el, fpath, Sh.zero, bound, Path.pre, below, skipPV, dif_pos, Nat.reduceBEq, vb_tt, vb_tf, vb_ft, vb_ff, List.getElem?_toArray, Call.operands, List.filterMap_nil, List.filterMap_cons, Nat.reduceAdd, List.contains_cons, Nat.reduceLT, Nat.reduceLeDiff, Nat.reduceSub, Nat.reduceEqDiff, Fl.wr, hitS, xback, lendX, vmix, pureOp, Fl.nofz, vio, vxgo, vmv, capOut, vs_a, vs_b, vs_c, vfloat, capBelow, Fl.unio, keepZ, nilP, moveTup, bq, tgs, List.getElem?_cons_succ, List.getElem?_cons_zero, Option.bind_some]
  refine hK _ ?_
  clear hK K
  try refine vthen_n ?_
  repeat refine VW.seq ?_
  refine VW.regl hT fun K hK => ?_
  simp only [Sh.size, fillRow, fillSt, noH, PV.isH, Fl.sub, PV.isEmp, List.replicate, Nat.reduceMul, emp1, headRow, rowOf, nilTest, V.take, V.drop, usesG, capUses, emp0, hdv, vops, vguard, vread, vdraw, vreadD, pop, ref, ev, cvalue, nonroot, PV.isRoot, setD, List.set, lenOf, binop, intop, reduceCtorEq, capsOf, cOf, look, get, lendCaps, lendAll, lend, lendCap, okRes, isAdr, capPV, List.map, List.any, List.append, mentOk, ments, Op.operands, loaded, Sh.plain, Fl.allfz, grab, upd, hit, V.put, unop, eqop, Fl.good, Fl.sound, Fl.l, Fl.r, Fl.el, fpath, Sh.zero, bound, Path.pre, below, skipPV, dif_pos, Nat.reduceBEq, vb_tt, vb_tf, vb_ft, vb_ff, List.getElem?_toArray, Call.operands, List.filterMap_nil, List.filterMap_cons, Nat.reduceAdd, List.contains_cons, Nat.reduceLT, Nat.reduceLeDiff, Nat.reduceSub, Nat.reduceEqDiff, Fl.wr, hitS, xback, lendX, vmix, pureOp, Fl.nofz, vio, vxgo, vmv, capOut, vs_a, vs_b, vs_c, vfloat, capBelow, Fl.unio, keepZ, nilP, moveTup, bq, tgs, List.getElem?_cons_succ, List.getElem?_cons_zero, Option.bind_some]
  intro b hb
  refine hK _ ?_
  clear hK K
  try refine vthen_n ?_
  repeat refine VW.seq ?_
  refine VW.cond rfl (fun hc => ?_) (fun hc => ?_)
  · repeat refine VW.seq ?_
    refine VW.regl hT fun K hK => ?_
    simp only [Sh.size, fillRow, fillSt, noH, PV.isH, Fl.sub, PV.isEmp, List.replicate, Nat.reduceMul, emp1, headRow, rowOf, nilTest, V.take, V.drop, usesG, capUses, emp0, hdv, vops, vguard, vread, vdraw, vreadD, pop, ref, ev, cvalue, nonroot, PV.isRoot, setD, List.set, lenOf, binop, intop, reduceCtorEq, capsOf, cOf, look, get, lendCaps, lendAll, lend, lendCap, okRes, isAdr, capPV, List.map, List.any, List.append, mentOk, ments, Op.operands, loaded, Sh.plain, Fl.allfz, grab, upd, hit, V.put, unop, eqop, Fl.good, Fl.sound, Fl.l, Fl.r, Fl.el, fpath, Sh.zero, bound, Path.pre, below, skipPV, dif_pos, Nat.reduceBEq, vb_tt, vb_tf, vb_ft, vb_ff, List.getElem?_toArray, Call.operands, List.filterMap_nil, List.filterMap_cons, Nat.reduceAdd, List.contains_cons, Nat.reduceLT, Nat.reduceLeDiff, Nat.reduceSub, Nat.reduceEqDiff, Fl.wr, hitS, xback, lendX, vmix, pureOp, Fl.nofz, vio, vxgo, vmv, capOut, vs_a, vs_b, vs_c, vfloat, capBelow, Fl.unio, keepZ, nilP, moveTup, bq, tgs, List.getElem?_cons_succ, List.getElem?_cons_zero, Option.bind_some]
    refine hK _ ?_
    clear hK K
    try refine vthen_n ?_
    refine VW.ret ⟨.inl rfl, _, rfl, ?_⟩
    have : t = [] := by
      rcases Nat.eq_zero_or_pos t.length with h | h
      · exact List.eq_nil_of_length_eq_zero h
      · have := hb h; rw [this] at hc; cases hc
    subst this; rfl
  · refine VW.skip (vthen_n ?_)
    repeat refine VW.seq ?_
    refine VW.regl hT fun K hK => ?_
    simp only [Sh.size, fillRow, fillSt, noH, PV.isH, Fl.sub, PV.isEmp, List.replicate, Nat.reduceMul, emp1, headRow, rowOf, nilTest, V.take, V.drop, usesG, capUses, emp0, hdv, vops, vguard, vread, vdraw, vreadD, pop, ref, ev, cvalue, nonroot, PV.isRoot, setD, List.set, lenOf, binop, intop, reduceCtorEq, capsOf, cOf, look, get, lendCaps, lendAll, lend, lendCap, okRes, isAdr, capPV, List.map, List.any, List.append, mentOk, ments, Op.operands, loaded, Sh.plain, Fl.allfz, grab, upd, hit, V.put, unop, eqop, Fl.good, Fl.sound, Fl.l, Fl.r, Fl.el, fpath, Sh.zero, bound, Path.pre, below, skipPV, dif_pos, Nat.reduceBEq, vb_tt, vb_tf, vb_ft, vb_ff, List.getElem?_toArray, Call.operands, List.filterMap_nil, List.filterMap_cons, Nat.reduceAdd, List.contains_cons, Nat.reduceLT, Nat.reduceLeDiff, Nat.reduceSub, Nat.reduceEqDiff, Fl.wr, hitS, xback, lendX, vmix, pureOp, Fl.nofz, vio, vxgo, vmv, capOut, vs_a, vs_b, vs_c, vfloat, capBelow, Fl.unio, keepZ, nilP, moveTup, bq, tgs, List.getElem?_cons_succ, List.getElem?_cons_zero, Option.bind_some]
    refine ⟨by simp [limOk]; omega, ?_⟩
    refine hK _ ?_
    clear hK K
    try refine vthen_n ?_
    exact VW.ret ⟨.inl rfl, _, rfl, rfl⟩
def addOk (t : List Nd) (k d f : Int) : Bool := treeOk t && treeOk (t ++ [(k, d, f)])
set_option maxRecDepth 20000 in
theorem addNode_vc (t : List Nd) (k d f : Int) (hl : t.length ≤ 100000) : VC Try.prog 49 [.v false sNS t, .v false (.int .i64) (k), .v false (.int .i64) (d), .v false (.int .i64) (f)] (· = .root (.tup [false, false]) (.pr sNS .bool) (.pr .own .fz) (if addOk t k d f = true then t ++ [(k, d, f)] else t, addOk t k d f)) := by
  refine VC.of_body hT Try.func49 rfl (by kernel_rfl) [(.tmp 8, false, sNS), (.tmp 9, false, .bool)] (by kernel_rfl) ?_
  show VW _ _ ([.v false sNS t, .v false (.int .i64) (k), .v false (.int .i64) (d), .v false (.int .i64) (f), D, D, D, D, D, D, D, D, D, D, D, D, D, D, D, D, D, D, D, D, D, D, D, D, D, D]) _
  repeat refine VW.seq ?_
  refine VW.regl hT fun K hK => ?_
  simp only [Sh.size, fillRow, fillSt, noH, PV.isH, Fl.sub, PV.isEmp, List.replicate, Nat.reduceMul, emp1, headRow, rowOf, nilTest, V.take, V.drop, usesG, capUses, emp0, hdv, vops, vguard, vread, vdraw, vreadD, pop, ref, ev, cvalue, nonroot, PV.isRoot, setD, List.set, lenOf, binop, intop, reduceCtorEq, capsOf, cOf, look, get, lendCaps, lendAll, lend, lendCap, okRes, isAdr, capPV, List.map, List.any, List.append, mentOk, ments, Op.operands, loaded, Sh.plain, Fl.allfz, grab, upd, hit, V.put, unop, eqop, Fl.good, Fl.sound, Fl.l, Fl.r, Fl.el, fpath, Sh.zero, bound, Path.pre, below, skipPV, dif_pos, Nat.reduceBEq, vb_tt, vb_tf, vb_ft, vb_ff, List.getElem?_toArray, Call.operands, List.filterMap_nil, List.filterMap_cons, Nat.reduceAdd, List.contains_cons, Nat.reduceLT, Nat.reduceLeDiff, Nat.reduceSub, Nat.reduceEqDiff, Fl.wr, hitS, xback, lendX, vmix, pureOp, Fl.nofz, vio, vxgo, vmv, capOut, vs_a, vs_b, vs_c, vfloat, capBelow, Fl.unio, keepZ, nilP, moveTup, bq, tgs, List.getElem?_cons_succ, List.getElem?_cons_zero, Option.bind_some]
  refine hK _ ?_
  clear hK K
  try refine vthen_n ?_
  repeat refine VW.seq ?_
  refine VW.regl hT fun K hK => ?_
  simp only [Sh.size, fillRow, fillSt, noH, PV.isH, Fl.sub, PV.isEmp, List.replicate, Nat.reduceMul, emp1, headRow, rowOf, nilTest, V.take, V.drop, usesG, capUses, emp0, hdv, vops, vguard, vread, vdraw, vreadD, pop, ref, ev, cvalue, nonroot, PV.isRoot, setD, List.set, lenOf, binop, intop, reduceCtorEq, capsOf, cOf, look, get, lendCaps, lendAll, lend, lendCap, okRes, isAdr, capPV, List.map, List.any, List.append, mentOk, ments, Op.operands, loaded, Sh.plain, Fl.allfz, grab, upd, hit, V.put, unop, eqop, Fl.good, Fl.sound, Fl.l, Fl.r, Fl.el, fpath, Sh.zero, bound, Path.pre, below, skipPV, dif_pos, Nat.reduceBEq, vb_tt, vb_tf, vb_ft, vb_ff, List.getElem?_toArray, Call.operands, List.filterMap_nil, List.filterMap_cons, Nat.reduceAdd, List.contains_cons, Nat.reduceLT, Nat.reduceLeDiff, Nat.reduceSub, Nat.reduceEqDiff, Fl.wr, hitS, xback, lendX, vmix, pureOp, Fl.nofz, vio, vxgo, vmv, capOut, vs_a, vs_b, vs_c, vfloat, capBelow, Fl.unio, keepZ, nilP, moveTup, bq, tgs, List.getElem?_cons_succ, List.getElem?_cons_zero, Option.bind_some]
  refine vcall_of (clone_vc t (by omega)) ?_
  simp only [Sh.size, fillRow, fillSt, noH, PV.isH, Fl.sub, PV.isEmp, List.replicate, Nat.reduceMul, emp1, headRow, rowOf, nilTest, V.take, V.drop, usesG, capUses, emp0, hdv, vops, vguard, vread, vdraw, vreadD, pop, ref, ev, cvalue, nonroot, PV.isRoot, setD, List.set, lenOf, binop, intop, reduceCtorEq, capsOf, cOf, look, get, lendCaps, lendAll, lend, lendCap, okRes, isAdr, capPV, List.map, List.any, List.append, mentOk, ments, Op.operands, loaded, Sh.plain, Fl.allfz, grab, upd, hit, V.put, unop, eqop, Fl.good, Fl.sound, Fl.l, Fl.r, Fl.el, fpath, Sh.zero, bound, Path.pre, below, skipPV, dif_pos, Nat.reduceBEq, vb_tt, vb_tf, vb_ft, vb_ff, List.getElem?_toArray, Call.operands, List.filterMap_nil, List.filterMap_cons, Nat.reduceAdd, List.contains_cons, Nat.reduceLT, Nat.reduceLeDiff, Nat.reduceSub, Nat.reduceEqDiff, Fl.wr, hitS, xback, lendX, vmix, pureOp, Fl.nofz, vio, vxgo, vmv, capOut, vs_a, vs_b, vs_c, vfloat, capBelow, Fl.unio, keepZ, nilP, moveTup, bq, tgs, List.getElem?_cons_succ, List.getElem?_cons_zero, Option.bind_some]
  refine ⟨by simp [limOk]; omega, ?_⟩
  refine hK _ ?_
  clear hK K
  try refine vthen_n ?_
  repeat refine VW.seq ?_
  refine VW.regl hT fun K hK => ?_
  simp only [Sh.size, fillRow, fillSt, noH, PV.isH, Fl.sub, PV.isEmp, List.replicate, Nat.reduceMul, emp1, headRow, rowOf, nilTest, V.take, V.drop, usesG, capUses, emp0, hdv, vops, vguard, vread, vdraw, vreadD, pop, ref, ev, cvalue, nonroot, PV.isRoot, setD, List.set, lenOf, binop, intop, reduceCtorEq, capsOf, cOf, look, get, lendCaps, lendAll, lend, lendCap, okRes, isAdr, capPV, List.map, List.any, List.append, mentOk, ments, Op.operands, loaded, Sh.plain, Fl.allfz, grab, upd, hit, V.put, unop, eqop, Fl.good, Fl.sound, Fl.l, Fl.r, Fl.el, fpath, Sh.zero, bound, Path.pre, below, skipPV, dif_pos, Nat.reduceBEq, vb_tt, vb_tf, vb_ft, vb_ff, List.getElem?_toArray, Call.operands, List.filterMap_nil, List.filterMap_cons, Nat.reduceAdd, List.contains_cons, Nat.reduceLT, Nat.reduceLeDiff, Nat.reduceSub, Nat.reduceEqDiff, Fl.wr, hitS, xback, lendX, vmix, pureOp, Fl.nofz, vio, vxgo, vmv, capOut, vs_a, vs_b, vs_c, vfloat, capBelow, Fl.unio, keepZ, nilP, moveTup, bq, tgs, List.getElem?_cons_succ, List.getElem?_cons_zero, Option.bind_some]
  refine vcall_of (treeOk_vc t (by omega)) ?_
  simp only [Sh.size, fillRow, fillSt, noH, PV.isH, Fl.sub, PV.isEmp, List.replicate, Nat.reduceMul, emp1, headRow, rowOf, nilTest, V.take, V.drop, usesG, capUses, emp0, hdv, vops, vguard, vread, vdraw, vreadD, pop, ref, ev, cvalue, nonroot, PV.isRoot, setD, List.set, lenOf, binop, intop, reduceCtorEq, capsOf, cOf, look, get, lendCaps, lendAll, lend, lendCap, okRes, isAdr, capPV, List.map, List.any, List.append, mentOk, ments, Op.operands, loaded, Sh.plain, Fl.allfz, grab, upd, hit, V.put, unop, eqop, Fl.good, Fl.sound, Fl.l, Fl.r, Fl.el, fpath, Sh.zero, bound, Path.pre, below, skipPV, dif_pos, Nat.reduceBEq, vb_tt, vb_tf, vb_ft, vb_ff, List.getElem?_toArray, Call.operands, List.filterMap_nil, List.filterMap_cons, Nat.reduceAdd, List.contains_cons, Nat.reduceLT, Nat.reduceLeDiff, Nat.reduceSub, Nat.reduceEqDiff, Fl.wr, hitS, xback, lendX, vmix, pureOp, Fl.nofz, vio, vxgo, vmv, capOut, vs_a, vs_b, vs_c, vfloat, capBelow, Fl.unio, keepZ, nilP, moveTup, bq, tgs, List.getElem?_cons_succ, List.getElem?_cons_zero, Option.bind_some]
  refine vbr (fun h => ?_) (fun h => ?_) <;> simp only [Sh.size, fillRow, fillSt, noH, PV.isH, Fl.sub, PV.isEmp, List.replicate, Nat.reduceMul, emp1, headRow, rowOf, nilTest, V.take, V.drop, usesG, capUses, emp0, hdv, vops, vguard, vread, vdraw, vreadD, pop, ref, ev, cvalue, nonroot, PV.isRoot, setD, List.set, lenOf, binop, intop, reduceCtorEq, capsOf, cOf, look, get, lendCaps, lendAll, lend, lendCap, okRes, isAdr, capPV, List.map, List.any, List.append, mentOk, ments, Op.operands, loaded, Sh.plain, Fl.allfz, grab, upd, hit, V.put, unop, eqop, Fl.good, Fl.sound, Fl.l, Fl.r, Fl.el, fpath, Sh.zero, bound, Path.pre, below, skipPV, dif_pos, Nat.reduceBEq, vb_tt, vb_tf, vb_ft, vb_ff, List.getElem?_toArray, Call.operands, List.filterMap_nil, List.filterMap_cons, Nat.reduceAdd, List.contains_cons, Nat.reduceLT, Nat.reduceLeDiff, Nat.reduceSub, Nat.reduceEqDiff, Fl.wr, hitS, xback, lendX, vmix, pureOp, Fl.nofz, vio, vxgo, vmv, capOut, vs_a, vs_b, vs_c, vfloat, capBelow, Fl.unio, keepZ, nilP, moveTup, bq, tgs, List.getElem?_cons_succ, List.getElem?_cons_zero, Option.bind_some]
  · refine vcall_of (treeOk_vc _ (by simp; omega)) ?_
    simp only [Sh.size, fillRow, fillSt, noH, PV.isH, Fl.sub, PV.isEmp, List.replicate, Nat.reduceMul, emp1, headRow, rowOf, nilTest, V.take, V.drop, usesG, capUses, emp0, hdv, vops, vguard, vread, vdraw, vreadD, pop, ref, ev, cvalue, nonroot, PV.isRoot, setD, List.set, lenOf, binop, intop, reduceCtorEq, capsOf, cOf, look, get, lendCaps, lendAll, lend, lendCap, okRes, isAdr, capPV, List.map, List.any, List.append, mentOk, ments, Op.operands, loaded, Sh.plain, Fl.allfz, grab, upd, hit, V.put, unop, eqop, Fl.good, Fl.sound, Fl.l, Fl.r, Fl.el, fpath, Sh.zero, bound, Path.pre, below, skipPV, dif_pos, Nat.reduceBEq, vb_tt, vb_tf, vb_ft, vb_ff, List.getElem?_toArray, Call.operands, List.filterMap_nil, List.filterMap_cons, Nat.reduceAdd, List.contains_cons, Nat.reduceLT, Nat.reduceLeDiff, Nat.reduceSub, Nat.reduceEqDiff, Fl.wr, hitS, xback, lendX, vmix, pureOp, Fl.nofz, vio, vxgo, vmv, capOut, vs_a, vs_b, vs_c, vfloat, capBelow, Fl.unio, keepZ, nilP, moveTup, bq, tgs, List.getElem?_cons_succ, List.getElem?_cons_zero, Option.bind_some]
    refine hK _ ?_
    clear hK K
    try refine vthen_n ?_
    repeat refine VW.seq ?_
    refine VW.cond rfl (fun hc => ?_) (fun hc => ?_)
    · repeat refine VW.seq ?_
      refine VW.regl hT fun K hK => ?_
      simp only [Sh.size, fillRow, fillSt, noH, PV.isH, Fl.sub, PV.isEmp, List.replicate, Nat.reduceMul, emp1, headRow, rowOf, nilTest, V.take, V.drop, usesG, capUses, emp0, hdv, vops, vguard, vread, vdraw, vreadD, pop, ref, ev, cvalue, nonroot, PV.isRoot, setD, List.set, lenOf, binop, intop, reduceCtorEq, capsOf, cOf, look, get, lendCaps, lendAll, lend, lendCap, okRes, isAdr, capPV, List.map, List.any, List.append, mentOk, ments, Op.operands, loaded, Sh.plain, Fl.allfz, grab, upd, hit, V.put, unop, eqop, Fl.good, Fl.sound, Fl.l, Fl.r, Fl.el, fpath, Sh.zero, bound, Path.pre, below, skipPV, dif_pos, Nat.reduceBEq, vb_tt, vb_tf, vb_ft, vb_ff, List.getElem?_toArray, Call.operands, List.filterMap_nil, List.filterMap_cons, Nat.reduceAdd, List.contains_cons, Nat.reduceLT, Nat.reduceLeDiff, Nat.reduceSub, Nat.reduceEqDiff, Fl.wr, hitS, xback, lendX, vmix, pureOp, Fl.nofz, vio, vxgo, vmv, capOut, vs_a, vs_b, vs_c, vfloat, capBelow, Fl.unio, keepZ, nilP, moveTup, bq, tgs, List.getElem?_cons_succ, List.getElem?_cons_zero, Option.bind_some]
      refine vcall_of (clone_vc t (by omega)) ?_
      simp only [Sh.size, fillRow, fillSt, noH, PV.isH, Fl.sub, PV.isEmp, List.replicate, Nat.reduceMul, emp1, headRow, rowOf, nilTest, V.take, V.drop, usesG, capUses, emp0, hdv, vops, vguard, vread, vdraw, vreadD, pop, ref, ev, cvalue, nonroot, PV.isRoot, setD, List.set, lenOf, binop, intop, reduceCtorEq, capsOf, cOf, look, get, lendCaps, lendAll, lend, lendCap, okRes, isAdr, capPV, List.map, List.any, List.append, mentOk, ments, Op.operands, loaded, Sh.plain, Fl.allfz, grab, upd, hit, V.put, unop, eqop, Fl.good, Fl.sound, Fl.l, Fl.r, Fl.el, fpath, Sh.zero, bound, Path.pre, below, skipPV, dif_pos, Nat.reduceBEq, vb_tt, vb_tf, vb_ft, vb_ff, List.getElem?_toArray, Call.operands, List.filterMap_nil, List.filterMap_cons, Nat.reduceAdd, List.contains_cons, Nat.reduceLT, Nat.reduceLeDiff, Nat.reduceSub, Nat.reduceEqDiff, Fl.wr, hitS, xback, lendX, vmix, pureOp, Fl.nofz, vio, vxgo, vmv, capOut, vs_a, vs_b, vs_c, vfloat, capBelow, Fl.unio, keepZ, nilP, moveTup, bq, tgs, List.getElem?_cons_succ, List.getElem?_cons_zero, Option.bind_some]
      refine hK _ ?_
      clear hK K
      try refine vthen_n ?_
      refine VW.ret ⟨.inl rfl, _, rfl, ?_⟩
      have h' : treeOk (t ++ [(k, d, f)]) = false := (Bool.not_eq_true' _).mp hc
      have e : addOk t k d f = false := by simp only [addOk, h', Bool.and_false]
      rw [e]
      rfl
    · refine VW.skip (vthen_n ?_)
      repeat refine VW.seq ?_
      refine VW.regl hT fun K hK => ?_
      simp only [Sh.size, fillRow, fillSt, noH, PV.isH, Fl.sub, PV.isEmp, List.replicate, Nat.reduceMul, emp1, headRow, rowOf, nilTest, V.take, V.drop, usesG, capUses, emp0, hdv, vops, vguard, vread, vdraw, vreadD, pop, ref, ev, cvalue, nonroot, PV.isRoot, setD, List.set, lenOf, binop, intop, reduceCtorEq, capsOf, cOf, look, get, lendCaps, lendAll, lend, lendCap, okRes, isAdr, capPV, List.map, List.any, List.append, mentOk, ments, Op.operands, loaded, Sh.plain, Fl.allfz, grab, upd, hit, V.put, unop, eqop, Fl.good, Fl.sound, Fl.l, Fl.r, Fl.el, fpath, Sh.zero, bound, Path.pre, below, skipPV, dif_pos, Nat.reduceBEq, vb_tt, vb_tf, vb_ft, vb_ff, List.getElem?_toArray, Call.operands, List.filterMap_nil, List.filterMap_cons, Nat.reduceAdd, List.contains_cons, Nat.reduceLT, Nat.reduceLeDiff, Nat.reduceSub, Nat.reduceEqDiff, Fl.wr, hitS, xback, lendX, vmix, pureOp, Fl.nofz, vio, vxgo, vmv, capOut, vs_a, vs_b, vs_c, vfloat, capBelow, Fl.unio, keepZ, nilP, moveTup, bq, tgs, List.getElem?_cons_succ, List.getElem?_cons_zero, Option.bind_some]
      refine hK _ ?_
      clear hK K
      try refine vthen_n ?_
      refine VW.ret ⟨.inl rfl, _, rfl, ?_⟩
      have h' : treeOk (t ++ [(k, d, f)]) = true := by
        have := hc
        rwa [Bool.not_eq_false'] at this
      have h0 : treeOk t = true := by
        have := h
        rwa [Bool.not_eq_false'] at this
      have e : addOk t k d f = true := by simp only [addOk, h', h0, Bool.and_self]
      rw [e]
      rfl
  · refine hK _ ?_
    clear hK K
    try refine vthen_n ?_
    repeat refine VW.seq ?_
    refine VW.cond rfl (fun hc => ?_) (fun hc => ?_)
    · repeat refine VW.seq ?_
      refine VW.regl hT fun K hK => ?_
      simp only [Sh.size, fillRow, fillSt, noH, PV.isH, Fl.sub, PV.isEmp, List.replicate, Nat.reduceMul, emp1, headRow, rowOf, nilTest, V.take, V.drop, usesG, capUses, emp0, hdv, vops, vguard, vread, vdraw, vreadD, pop, ref, ev, cvalue, nonroot, PV.isRoot, setD, List.set, lenOf, binop, intop, reduceCtorEq, capsOf, cOf, look, get, lendCaps, lendAll, lend, lendCap, okRes, isAdr, capPV, List.map, List.any, List.append, mentOk, ments, Op.operands, loaded, Sh.plain, Fl.allfz, grab, upd, hit, V.put, unop, eqop, Fl.good, Fl.sound, Fl.l, Fl.r, Fl.el, fpath, Sh.zero, bound, Path.pre, below, skipPV, dif_pos, Nat.reduceBEq, vb_tt, vb_tf, vb_ft, vb_ff, List.getElem?_toArray, Call.operands, List.filterMap_nil, List.filterMap_cons, Nat.reduceAdd, List.contains_cons, Nat.reduceLT, Nat.reduceLeDiff, Nat.reduceSub, Nat.reduceEqDiff, Fl.wr, hitS, xback, lendX, vmix, pureOp, Fl.nofz, vio, vxgo, vmv, capOut, vs_a, vs_b, vs_c, vfloat, capBelow, Fl.unio, keepZ, nilP, moveTup, bq, tgs, List.getElem?_cons_succ, List.getElem?_cons_zero, Option.bind_some]
      refine vcall_of (clone_vc t (by omega)) ?_
      simp only [Sh.size, fillRow, fillSt, noH, PV.isH, Fl.sub, PV.isEmp, List.replicate, Nat.reduceMul, emp1, headRow, rowOf, nilTest, V.take, V.drop, usesG, capUses, emp0, hdv, vops, vguard, vread, vdraw, vreadD, pop, ref, ev, cvalue, nonroot, PV.isRoot, setD, List.set, lenOf, binop, intop, reduceCtorEq, capsOf, cOf, look, get, lendCaps, lendAll, lend, lendCap, okRes, isAdr, capPV, List.map, List.any, List.append, mentOk, ments, Op.operands, loaded, Sh.plain, Fl.allfz, grab, upd, hit, V.put, unop, eqop, Fl.good, Fl.sound, Fl.l, Fl.r, Fl.el, fpath, Sh.zero, bound, Path.pre, below, skipPV, dif_pos, Nat.reduceBEq, vb_tt, vb_tf, vb_ft, vb_ff, List.getElem?_toArray, Call.operands, List.filterMap_nil, List.filterMap_cons, Nat.reduceAdd, List.contains_cons, Nat.reduceLT, Nat.reduceLeDiff, Nat.reduceSub, Nat.reduceEqDiff, Fl.wr, hitS, xback, lendX, vmix, pureOp, Fl.nofz, vio, vxgo, vmv, capOut, vs_a, vs_b, vs_c, vfloat, capBelow, Fl.unio, keepZ, nilP, moveTup, bq, tgs, List.getElem?_cons_succ, List.getElem?_cons_zero, Option.bind_some]
      refine hK _ ?_
      clear hK K
      try refine vthen_n ?_
      refine VW.ret ⟨.inl rfl, _, rfl, ?_⟩
      have h' : treeOk t = false := by
        have : (!treeOk t) = true := h
        exact (Bool.not_eq_true' _).mp this
      have e : addOk t k d f = false := by simp only [addOk, h', Bool.false_and]
      rw [e]
      rfl
    · cases hc
/-- a slot taken -/
def taken (p d : Int) (x : Nd) : Bool := x.1 == p && x.2.1 == d
theorem slots1_vc (x : Nd) (p d : Int) : VC Try.prog 79 [.v true sN x, .fadr (.int .i64) p, .fadr (.int .i64) d] (· = .v false .bool (taken p d x)) := by
  refine VC.of_body hT Try.func79 rfl (by kernel_rfl) [(.tmp 4, false, .bool)] (by kernel_rfl) ?_
  show VW _ _ ([.v true sN x, .fadr (.int .i64) p, .fadr (.int .i64) d, D, D, D, D, D, D, D, D, D, D, D, D]) _
  repeat refine VW.seq ?_
  refine VW.regl hT fun K hK => ?_
  simp only [Sh.size, fillRow, fillSt, noH, PV.isH, Fl.sub, PV.isEmp, List.replicate, Nat.reduceMul, emp1, headRow, rowOf, nilTest, V.take, V.drop, usesG, capUses, emp0, hdv, vops, vguard, vread, vdraw, vreadD, pop, ref, ev, cvalue, nonroot, PV.isRoot, setD, List.set, lenOf, binop, intop, reduceCtorEq, capsOf, cOf, look, get, lendCaps, lendAll, lend, lendCap, okRes, isAdr, capPV, List.map, List.any, List.append, mentOk, ments, Op.operands, loaded, Sh.plain, Fl.allfz, grab, upd, hit, V.put, unop, eqop, Fl.good, Fl.sound, Fl.l, Fl.r, Fl.el, fpath, Sh.zero, bound, Path.pre, below, skipPV, dif_pos, Nat.reduceBEq, vb_tt, vb_tf, vb_ft, vb_ff, List.getElem?_toArray, Call.operands, List.filterMap_nil, List.filterMap_cons, Nat.reduceAdd, List.contains_cons, Nat.reduceLT, Nat.reduceLeDiff, Nat.reduceSub, Nat.reduceEqDiff, Fl.wr, hitS, xback, lendX, vmix, pureOp, Fl.nofz, vio, vxgo, vmv, capOut, vs_a, vs_b, vs_c, vfloat, capBelow, Fl.unio, keepZ, nilP, moveTup, bq, tgs, List.getElem?_cons_succ, List.getElem?_cons_zero, Option.bind_some]
  refine hK _ ?_
  clear hK K
  try refine vthen_n ?_
  repeat refine VW.seq ?_
  refine VW.regl hT fun K hK => ?_
  simp only [Sh.size, fillRow, fillSt, noH, PV.isH, Fl.sub, PV.isEmp, List.replicate, Nat.reduceMul, emp1, headRow, rowOf, nilTest, V.take, V.drop, usesG, capUses, emp0, hdv, vops, vguard, vread, vdraw, vreadD, pop, ref, ev, cvalue, nonroot, PV.isRoot, setD, List.set, lenOf, binop, intop, reduceCtorEq, capsOf, cOf, look, get, lendCaps, lendAll, lend, lendCap, okRes, isAdr, capPV, List.map, List.any, List.append, mentOk, ments, Op.operands, loaded, Sh.plain, Fl.allfz, grab, upd, hit, V.put, unop, eqop, Fl.good, Fl.sound, Fl.l, Fl.r, Fl.el, fpath, Sh.zero, bound, Path.pre, below, skipPV, dif_pos, Nat.reduceBEq, vb_tt, vb_tf, vb_ft, vb_ff, List.getElem?_toArray, Call.operands, List.filterMap_nil, List.filterMap_cons, Nat.reduceAdd, List.contains_cons, Nat.reduceLT, Nat.reduceLeDiff, Nat.reduceSub, Nat.reduceEqDiff, Fl.wr, hitS, xback, lendX, vmix, pureOp, Fl.nofz, vio, vxgo, vmv, capOut, vs_a, vs_b, vs_c, vfloat, capBelow, Fl.unio, keepZ, nilP, moveTup, bq, tgs, List.getElem?_cons_succ, List.getElem?_cons_zero, Option.bind_some]
  refine vbr (fun h => ?_) (fun h => ?_) <;> simp only [Sh.size, fillRow, fillSt, noH, PV.isH, Fl.sub, PV.isEmp, List.replicate, Nat.reduceMul, emp1, headRow, rowOf, nilTest, V.take, V.drop, usesG, capUses, emp0, hdv, vops, vguard, vread, vdraw, vreadD, pop, ref, ev, cvalue, nonroot, PV.isRoot, setD, List.set, lenOf, binop, intop, reduceCtorEq, capsOf, cOf, look, get, lendCaps, lendAll, lend, lendCap, okRes, isAdr, capPV, List.map, List.any, List.append, mentOk, ments, Op.operands, loaded, Sh.plain, Fl.allfz, grab, upd, hit, V.put, unop, eqop, Fl.good, Fl.sound, Fl.l, Fl.r, Fl.el, fpath, Sh.zero, bound, Path.pre, below, skipPV, dif_pos, Nat.reduceBEq, vb_tt, vb_tf, vb_ft, vb_ff, List.getElem?_toArray, Call.operands, List.filterMap_nil, List.filterMap_cons, Nat.reduceAdd, List.contains_cons, Nat.reduceLT, Nat.reduceLeDiff, Nat.reduceSub, Nat.reduceEqDiff, Fl.wr, hitS, xback, lendX, vmix, pureOp, Fl.nofz, vio, vxgo, vmv, capOut, vs_a, vs_b, vs_c, vfloat, capBelow, Fl.unio, keepZ, nilP, moveTup, bq, tgs, List.getElem?_cons_succ, List.getElem?_cons_zero, Option.bind_some]
  · refine hK _ ?_
    clear hK K
    try refine vthen_n ?_
    refine VW.ret ⟨.inl rfl, _, rfl, ?_⟩
    simp only [taken, h, Bool.true_and]
  · refine hK _ ?_
    clear hK K
    try refine vthen_n ?_
    refine VW.ret ⟨.inl rfl, _, rfl, ?_⟩
    simp only [taken, h, Bool.not_true, Bool.false_and]
def slotsTo (t : List Nd) (k : Int) (i : Nat) : List Int := ((List.range i).filter fun d : Nat => !t.any (taken k d)).map fun d : Nat => (d : Int)
theorem slotsTo_succ (t : List Nd) (k : Int) (i : Nat) : slotsTo t k (i + 1) = slotsTo t k i ++ (if (!t.any (taken k i)) = true then [(i : Int)] else []) := by
  unfold slotsTo
  rw [List.range_succ, List.filter_append, List.map_append]
  congr 1
  simp only [List.filter_cons, List.filter_nil]
  split <;> rfl
theorem slotsTo_len (t : List Nd) (k : Int) (i : Nat) : (slotsTo t k i).length ≤ i := by
  unfold slotsTo
  rw [List.length_map]
  have := List.length_filter_le (fun d : Nat => !t.any (taken k d)) (List.range i)
  rwa [List.length_range] at this
def slotsOf (t : List Nd) (k : Int) : List Int := if (treeOk t && inB k 0 (t.length - 1)) = true ∧ ((t.getD k.toNat z).2.2 == 0) = true then slotsTo t k 4 else []
set_option maxRecDepth 20000 in
theorem slotsOf_vc (t : List Nd) (k : Int) (hl : t.length ≤ 1000000) : VC Try.prog 25 [.v false sNS t, .v false (.int .i64) (k)] (· = .root (.val false) sI .own (slotsOf t k)) := by
  refine VC.of_body hT Try.func25 rfl (by kernel_rfl) [(.tmp 4, false, sI)] (by kernel_rfl) ?_
  show VW _ _ ([.v false sNS t, .v false (.int .i64) (k), D, D, D, D, D, D, D, D, D, D, D, D, D, D, D, D, D, D, D, D, D, D, D, D, D, D, D, D, D, D]) _
  repeat refine VW.seq ?_
  refine VW.regl hT fun K hK => ?_
  simp only [Sh.size, fillRow, fillSt, noH, PV.isH, Fl.sub, PV.isEmp, List.replicate, Nat.reduceMul, emp1, headRow, rowOf, nilTest, V.take, V.drop, usesG, capUses, emp0, hdv, vops, vguard, vread, vdraw, vreadD, pop, ref, ev, cvalue, nonroot, PV.isRoot, setD, List.set, lenOf, binop, intop, reduceCtorEq, capsOf, cOf, look, get, lendCaps, lendAll, lend, lendCap, okRes, isAdr, capPV, List.map, List.any, List.append, mentOk, ments, Op.operands, loaded, Sh.plain, Fl.allfz, grab, upd, hit, V.put, unop, eqop, Fl.good, Fl.sound, Fl.l, Fl.r, Fl.el, fpath, Sh.zero, bound, Path.pre, below, skipPV, dif_pos, Nat.reduceBEq, vb_tt, vb_tf, vb_ft, vb_ff, List.getElem?_toArray, Call.operands, List.filterMap_nil, List.filterMap_cons, Nat.reduceAdd, List.contains_cons, Nat.reduceLT, Nat.reduceLeDiff, Nat.reduceSub, Nat.reduceEqDiff, Fl.wr, hitS, xback, lendX, vmix, pureOp, Fl.nofz, vio, vxgo, vmv, capOut, vs_a, vs_b, vs_c, vfloat, capBelow, Fl.unio, keepZ, nilP, moveTup, bq, tgs, List.getElem?_cons_succ, List.getElem?_cons_zero, Option.bind_some]
  refine hK _ ?_
  clear hK K
  try refine vthen_n ?_
  repeat refine VW.seq ?_
  refine VW.regl hT fun K hK => ?_
  simp only [Sh.size, fillRow, fillSt, noH, PV.isH, Fl.sub, PV.isEmp, List.replicate, Nat.reduceMul, emp1, headRow, rowOf, nilTest, V.take, V.drop, usesG, capUses, emp0, hdv, vops, vguard, vread, vdraw, vreadD, pop, ref, ev, cvalue, nonroot, PV.isRoot, setD, List.set, lenOf, binop, intop, reduceCtorEq, capsOf, cOf, look, get, lendCaps, lendAll, lend, lendCap, okRes, isAdr, capPV, List.map, List.any, List.append, mentOk, ments, Op.operands, loaded, Sh.plain, Fl.allfz, grab, upd, hit, V.put, unop, eqop, Fl.good, Fl.sound, Fl.l, Fl.r, Fl.el, fpath, Sh.zero, bound, Path.pre, below, skipPV, dif_pos, Nat.reduceBEq, vb_tt, vb_tf, vb_ft, vb_ff, List.getElem?_toArray, Call.operands, List.filterMap_nil, List.filterMap_cons, Nat.reduceAdd, List.contains_cons, Nat.reduceLT, Nat.reduceLeDiff, Nat.reduceSub, Nat.reduceEqDiff, Fl.wr, hitS, xback, lendX, vmix, pureOp, Fl.nofz, vio, vxgo, vmv, capOut, vs_a, vs_b, vs_c, vfloat, capBelow, Fl.unio, keepZ, nilP, moveTup, bq, tgs, List.getElem?_cons_succ, List.getElem?_cons_zero, Option.bind_some]
  refine hK _ ?_
  clear hK K
  try refine vthen_n ?_
  repeat refine VW.seq ?_
  refine VW.regl hT fun K hK => ?_
  simp only [Sh.size, fillRow, fillSt, noH, PV.isH, Fl.sub, PV.isEmp, List.replicate, Nat.reduceMul, emp1, headRow, rowOf, nilTest, V.take, V.drop, usesG, capUses, emp0, hdv, vops, vguard, vread, vdraw, vreadD, pop, ref, ev, cvalue, nonroot, PV.isRoot, setD, List.set, lenOf, binop, intop, reduceCtorEq, capsOf, cOf, look, get, lendCaps, lendAll, lend, lendCap, okRes, isAdr, capPV, List.map, List.any, List.append, mentOk, ments, Op.operands, loaded, Sh.plain, Fl.allfz, grab, upd, hit, V.put, unop, eqop, Fl.good, Fl.sound, Fl.l, Fl.r, Fl.el, fpath, Sh.zero, bound, Path.pre, below, skipPV, dif_pos, Nat.reduceBEq, vb_tt, vb_tf, vb_ft, vb_ff, List.getElem?_toArray, Call.operands, List.filterMap_nil, List.filterMap_cons, Nat.reduceAdd, List.contains_cons, Nat.reduceLT, Nat.reduceLeDiff, Nat.reduceSub, Nat.reduceEqDiff, Fl.wr, hitS, xback, lendX, vmix, pureOp, Fl.nofz, vio, vxgo, vmv, capOut, vs_a, vs_b, vs_c, vfloat, capBelow, Fl.unio, keepZ, nilP, moveTup, bq, tgs, List.getElem?_cons_succ, List.getElem?_cons_zero, Option.bind_some]
  refine vcall_of (isNode_vc t k hl) ?_
  simp only [Sh.size, fillRow, fillSt, noH, PV.isH, Fl.sub, PV.isEmp, List.replicate, Nat.reduceMul, emp1, headRow, rowOf, nilTest, V.take, V.drop, usesG, capUses, emp0, hdv, vops, vguard, vread, vdraw, vreadD, pop, ref, ev, cvalue, nonroot, PV.isRoot, setD, List.set, lenOf, binop, intop, reduceCtorEq, capsOf, cOf, look, get, lendCaps, lendAll, lend, lendCap, okRes, isAdr, capPV, List.map, List.any, List.append, mentOk, ments, Op.operands, loaded, Sh.plain, Fl.allfz, grab, upd, hit, V.put, unop, eqop, Fl.good, Fl.sound, Fl.l, Fl.r, Fl.el, fpath, Sh.zero, bound, Path.pre, below, skipPV, dif_pos, Nat.reduceBEq, vb_tt, vb_tf, vb_ft, vb_ff, List.getElem?_toArray, Call.operands, List.filterMap_nil, List.filterMap_cons, Nat.reduceAdd, List.contains_cons, Nat.reduceLT, Nat.reduceLeDiff, Nat.reduceSub, Nat.reduceEqDiff, Fl.wr, hitS, xback, lendX, vmix, pureOp, Fl.nofz, vio, vxgo, vmv, capOut, vs_a, vs_b, vs_c, vfloat, capBelow, Fl.unio, keepZ, nilP, moveTup, bq, tgs, List.getElem?_cons_succ, List.getElem?_cons_zero, Option.bind_some]
  refine vbr (fun h => ?_) (fun h => ?_) <;> simp only [Sh.size, fillRow, fillSt, noH, PV.isH, Fl.sub, PV.isEmp, List.replicate, Nat.reduceMul, emp1, headRow, rowOf, nilTest, V.take, V.drop, usesG, capUses, emp0, hdv, vops, vguard, vread, vdraw, vreadD, pop, ref, ev, cvalue, nonroot, PV.isRoot, setD, List.set, lenOf, binop, intop, reduceCtorEq, capsOf, cOf, look, get, lendCaps, lendAll, lend, lendCap, okRes, isAdr, capPV, List.map, List.any, List.append, mentOk, ments, Op.operands, loaded, Sh.plain, Fl.allfz, grab, upd, hit, V.put, unop, eqop, Fl.good, Fl.sound, Fl.l, Fl.r, Fl.el, fpath, Sh.zero, bound, Path.pre, below, skipPV, dif_pos, Nat.reduceBEq, vb_tt, vb_tf, vb_ft, vb_ff, List.getElem?_toArray, Call.operands, List.filterMap_nil, List.filterMap_cons, Nat.reduceAdd, List.contains_cons, Nat.reduceLT, Nat.reduceLeDiff, Nat.reduceSub, Nat.reduceEqDiff, Fl.wr, hitS, xback, lendX, vmix, pureOp, Fl.nofz, vio, vxgo, vmv, capOut, vs_a, vs_b, vs_c, vfloat, capBelow, Fl.unio, keepZ, nilP, moveTup, bq, tgs, List.getElem?_cons_succ, List.getElem?_cons_zero, Option.bind_some]
  case refine_2 =>
    refine hK _ ?_
    clear hK K
    try refine vthen_n ?_
    repeat refine VW.seq ?_
    refine VW.cond rfl (fun hc => ?_) (fun hc => ?_)
    · repeat refine VW.seq ?_
      refine VW.regl hT fun K hK => ?_
      simp only [Sh.size, fillRow, fillSt, noH, PV.isH, Fl.sub, PV.isEmp, List.replicate, Nat.reduceMul, emp1, headRow, rowOf, nilTest, V.take, V.drop, usesG, capUses, emp0, hdv, vops, vguard, vread, vdraw, vreadD, pop, ref, ev, cvalue, nonroot, PV.isRoot, setD, List.set, lenOf, binop, intop, reduceCtorEq, capsOf, cOf, look, get, lendCaps, lendAll, lend, lendCap, okRes, isAdr, capPV, List.map, List.any, List.append, mentOk, ments, Op.operands, loaded, Sh.plain, Fl.allfz, grab, upd, hit, V.put, unop, eqop, Fl.good, Fl.sound, Fl.l, Fl.r, Fl.el, fpath, Sh.zero, bound, Path.pre, below, skipPV, dif_pos, Nat.reduceBEq, vb_tt, vb_tf, vb_ft, vb_ff, List.getElem?_toArray, Call.operands, List.filterMap_nil, List.filterMap_cons, Nat.reduceAdd, List.contains_cons, Nat.reduceLT, Nat.reduceLeDiff, Nat.reduceSub, Nat.reduceEqDiff, Fl.wr, hitS, xback, lendX, vmix, pureOp, Fl.nofz, vio, vxgo, vmv, capOut, vs_a, vs_b, vs_c, vfloat, capBelow, Fl.unio, keepZ, nilP, moveTup, bq, tgs, List.getElem?_cons_succ, List.getElem?_cons_zero, Option.bind_some]
      refine hK _ ?_
      clear hK K
      try refine vthen_n ?_
      refine VW.ret ⟨.inl rfl, _, rfl, ?_⟩
      have h' : (treeOk t && inB k 0 (t.length - 1)) = false := (Bool.not_eq_true' _).mp (show (!(treeOk t && inB k 0 (t.length - 1))) = true from h)
      simp only [slotsOf, h', Bool.false_eq_true, false_and, if_false]
      rfl
    · cases hc
  have hok : (treeOk t && inB k 0 (t.length - 1)) = true := by
    have := h
    rwa [Bool.not_eq_false'] at this
  have hk := hok
  simp only [Bool.and_eq_true] at hk
  have hk := inB_iff.1 hk.2
  refine vcall_of (isBridge_vc t k hk.1 (by omega)) ?_
  simp only [Sh.size, fillRow, fillSt, noH, PV.isH, Fl.sub, PV.isEmp, List.replicate, Nat.reduceMul, emp1, headRow, rowOf, nilTest, V.take, V.drop, usesG, capUses, emp0, hdv, vops, vguard, vread, vdraw, vreadD, pop, ref, ev, cvalue, nonroot, PV.isRoot, setD, List.set, lenOf, binop, intop, reduceCtorEq, capsOf, cOf, look, get, lendCaps, lendAll, lend, lendCap, okRes, isAdr, capPV, List.map, List.any, List.append, mentOk, ments, Op.operands, loaded, Sh.plain, Fl.allfz, grab, upd, hit, V.put, unop, eqop, Fl.good, Fl.sound, Fl.l, Fl.r, Fl.el, fpath, Sh.zero, bound, Path.pre, below, skipPV, dif_pos, Nat.reduceBEq, vb_tt, vb_tf, vb_ft, vb_ff, List.getElem?_toArray, Call.operands, List.filterMap_nil, List.filterMap_cons, Nat.reduceAdd, List.contains_cons, Nat.reduceLT, Nat.reduceLeDiff, Nat.reduceSub, Nat.reduceEqDiff, Fl.wr, hitS, xback, lendX, vmix, pureOp, Fl.nofz, vio, vxgo, vmv, capOut, vs_a, vs_b, vs_c, vfloat, capBelow, Fl.unio, keepZ, nilP, moveTup, bq, tgs, List.getElem?_cons_succ, List.getElem?_cons_zero, Option.bind_some]
  refine hK _ ?_
  clear hK K
  try refine vthen_n ?_
  repeat refine VW.seq ?_
  refine VW.cond rfl (fun hc => ?_) (fun hc => ?_)
  · repeat refine VW.seq ?_
    refine VW.regl hT fun K hK => ?_
    simp only [Sh.size, fillRow, fillSt, noH, PV.isH, Fl.sub, PV.isEmp, List.replicate, Nat.reduceMul, emp1, headRow, rowOf, nilTest, V.take, V.drop, usesG, capUses, emp0, hdv, vops, vguard, vread, vdraw, vreadD, pop, ref, ev, cvalue, nonroot, PV.isRoot, setD, List.set, lenOf, binop, intop, reduceCtorEq, capsOf, cOf, look, get, lendCaps, lendAll, lend, lendCap, okRes, isAdr, capPV, List.map, List.any, List.append, mentOk, ments, Op.operands, loaded, Sh.plain, Fl.allfz, grab, upd, hit, V.put, unop, eqop, Fl.good, Fl.sound, Fl.l, Fl.r, Fl.el, fpath, Sh.zero, bound, Path.pre, below, skipPV, dif_pos, Nat.reduceBEq, vb_tt, vb_tf, vb_ft, vb_ff, List.getElem?_toArray, Call.operands, List.filterMap_nil, List.filterMap_cons, Nat.reduceAdd, List.contains_cons, Nat.reduceLT, Nat.reduceLeDiff, Nat.reduceSub, Nat.reduceEqDiff, Fl.wr, hitS, xback, lendX, vmix, pureOp, Fl.nofz, vio, vxgo, vmv, capOut, vs_a, vs_b, vs_c, vfloat, capBelow, Fl.unio, keepZ, nilP, moveTup, bq, tgs, List.getElem?_cons_succ, List.getElem?_cons_zero, Option.bind_some]
    refine hK _ ?_
    clear hK K
    try refine vthen_n ?_
    refine VW.ret ⟨.inl rfl, _, rfl, ?_⟩
    have h' : ((t.getD k.toNat z).2.2 == 0) = false := (Bool.not_eq_true' _).mp hc
    simp only [slotsOf, h', Bool.false_eq_true, and_false, if_false]
    rfl
  have hbr : ((t.getD k.toNat z).2.2 == 0) = true := by
    have := hc
    rwa [Bool.not_eq_false'] at this
  refine VW.skip (vthen_n ?_)
  repeat refine VW.seq ?_
  refine VW.regl hT fun K hK => ?_
  simp only [Sh.size, fillRow, fillSt, noH, PV.isH, Fl.sub, PV.isEmp, List.replicate, Nat.reduceMul, emp1, headRow, rowOf, nilTest, V.take, V.drop, usesG, capUses, emp0, hdv, vops, vguard, vread, vdraw, vreadD, pop, ref, ev, cvalue, nonroot, PV.isRoot, setD, List.set, lenOf, binop, intop, reduceCtorEq, capsOf, cOf, look, get, lendCaps, lendAll, lend, lendCap, okRes, isAdr, capPV, List.map, List.any, List.append, mentOk, ments, Op.operands, loaded, Sh.plain, Fl.allfz, grab, upd, hit, V.put, unop, eqop, Fl.good, Fl.sound, Fl.l, Fl.r, Fl.el, fpath, Sh.zero, bound, Path.pre, below, skipPV, dif_pos, Nat.reduceBEq, vb_tt, vb_tf, vb_ft, vb_ff, List.getElem?_toArray, Call.operands, List.filterMap_nil, List.filterMap_cons, Nat.reduceAdd, List.contains_cons, Nat.reduceLT, Nat.reduceLeDiff, Nat.reduceSub, Nat.reduceEqDiff, Fl.wr, hitS, xback, lendX, vmix, pureOp, Fl.nofz, vio, vxgo, vmv, capOut, vs_a, vs_b, vs_c, vfloat, capBelow, Fl.unio, keepZ, nilP, moveTup, bq, tgs, List.getElem?_cons_succ, List.getElem?_cons_zero, Option.bind_some]
  refine hK _ ?_
  clear hK K
  try refine vthen_n ?_
  repeat refine VW.seq ?_
  refine VW.block ?_
  refine VW.loop (α := Nat) [(0, none), (3, none), (5, some (3, .int .i64)), (19, none)] (fun i => [.v false sNS t, D, D, .root (.box 3) (.int .i64) .fz k, D, .root (.val false) sI .own (slotsTo t k i), D, D, D, D, D, D, D, D, D, D, D, D, D, .v false (.int .i64) (i), D, D, D, D, D, D, D, D, D, D, D, D]) (fun i => i ≤ 4) (fun i => 4 - i) ⟨0, by omega, ?_⟩ fun i hi => ?_
  · simp only [norm, homeOne, moveTo, keepS, keepGo, usesOut, List.foldl, ren, renC, Sh.size, fillRow, fillSt, noH, PV.isH, Fl.sub, PV.isEmp, List.replicate, Nat.reduceMul, emp1, headRow, rowOf, nilTest, V.take, V.drop, usesG, capUses, emp0, hdv, vops, vguard, vread, vdraw, vreadD, pop, ref, ev, cvalue, nonroot, PV.isRoot, setD, List.set, lenOf, binop, intop, reduceCtorEq, capsOf, cOf, look, get, lendCaps, lendAll, lend, lendCap, okRes, isAdr, capPV, List.map, List.any, List.append, mentOk, ments, Op.operands, loaded, Sh.plain, Fl.allfz, grab, upd, hit, V.put, unop, eqop, Fl.good, Fl.sound, Fl.l, Fl.r, Fl.el, fpath, Sh.zero, bound, Path.pre, below, skipPV, dif_pos, Nat.reduceBEq, vb_tt, vb_tf, vb_ft, vb_ff, List.getElem?_toArray, Call.operands, List.filterMap_nil, List.filterMap_cons, Nat.reduceAdd, List.contains_cons, Nat.reduceLT, Nat.reduceLeDiff, Nat.reduceSub, Nat.reduceEqDiff, Fl.wr, hitS, xback, lendX, vmix, pureOp, Fl.nofz, vio, vxgo, vmv, capOut, vs_a, vs_b, vs_c, vfloat, capBelow, Fl.unio, keepZ, nilP, moveTup, bq, tgs, List.getElem?_cons_succ, List.getElem?_cons_zero, Option.bind_some]
    rfl
  repeat refine VW.seq ?_
  refine VW.regl hT fun K hK => ?_
  simp only [Sh.size, fillRow, fillSt, noH, PV.isH, Fl.sub, PV.isEmp, List.replicate, Nat.reduceMul, emp1, headRow, rowOf, nilTest, V.take, V.drop, usesG, capUses, emp0, hdv, vops, vguard, vread, vdraw, vreadD, pop, ref, ev, cvalue, nonroot, PV.isRoot, setD, List.set, lenOf, binop, intop, reduceCtorEq, capsOf, cOf, look, get, lendCaps, lendAll, lend, lendCap, okRes, isAdr, capPV, List.map, List.any, List.append, mentOk, ments, Op.operands, loaded, Sh.plain, Fl.allfz, grab, upd, hit, V.put, unop, eqop, Fl.good, Fl.sound, Fl.l, Fl.r, Fl.el, fpath, Sh.zero, bound, Path.pre, below, skipPV, dif_pos, Nat.reduceBEq, vb_tt, vb_tf, vb_ft, vb_ff, List.getElem?_toArray, Call.operands, List.filterMap_nil, List.filterMap_cons, Nat.reduceAdd, List.contains_cons, Nat.reduceLT, Nat.reduceLeDiff, Nat.reduceSub, Nat.reduceEqDiff, Fl.wr, hitS, xback, lendX, vmix, pureOp, Fl.nofz, vio, vxgo, vmv, capOut, vs_a, vs_b, vs_c, vfloat, capBelow, Fl.unio, keepZ, nilP, moveTup, bq, tgs, List.getElem?_cons_succ, List.getElem?_cons_zero, Option.bind_some]
  refine hK _ ?_
  clear hK K
  try refine vthen_n ?_
  repeat refine VW.seq ?_
  refine VW.cond rfl (fun hc => ?_) (fun hc => ?_)
  · have hlt : i < 4 := by
      have : (i : Int) < 4 := by simpa using hc
      omega
    have hsl := slotsTo_len t k i
    refine VW.skip (vthen_n ?_)
    repeat refine VW.seq ?_
    refine VW.block ?_
    repeat refine VW.seq ?_
    refine VW.regl hT fun K hK => ?_
    simp only [Sh.size, fillRow, fillSt, noH, PV.isH, Fl.sub, PV.isEmp, List.replicate, Nat.reduceMul, emp1, headRow, rowOf, nilTest, V.take, V.drop, usesG, capUses, emp0, hdv, vops, vguard, vread, vdraw, vreadD, pop, ref, ev, cvalue, nonroot, PV.isRoot, setD, List.set, lenOf, binop, intop, reduceCtorEq, capsOf, cOf, look, get, lendCaps, lendAll, lend, lendCap, okRes, isAdr, capPV, List.map, List.any, List.append, mentOk, ments, Op.operands, loaded, Sh.plain, Fl.allfz, grab, upd, hit, V.put, unop, eqop, Fl.good, Fl.sound, Fl.l, Fl.r, Fl.el, fpath, Sh.zero, bound, Path.pre, below, skipPV, dif_pos, Nat.reduceBEq, vb_tt, vb_tf, vb_ft, vb_ff, List.getElem?_toArray, Call.operands, List.filterMap_nil, List.filterMap_cons, Nat.reduceAdd, List.contains_cons, Nat.reduceLT, Nat.reduceLeDiff, Nat.reduceSub, Nat.reduceEqDiff, Fl.wr, hitS, xback, lendX, vmix, pureOp, Fl.nofz, vio, vxgo, vmv, capOut, vs_a, vs_b, vs_c, vfloat, capBelow, Fl.unio, keepZ, nilP, moveTup, bq, tgs, List.getElem?_cons_succ, List.getElem?_cons_zero, Option.bind_some]
    refine hK _ ?_
    clear hK K
    try refine vthen_n ?_
    repeat refine VW.seq ?_
    refine VW.regl hT fun K hK => ?_
    simp only [Sh.size, fillRow, fillSt, noH, PV.isH, Fl.sub, PV.isEmp, List.replicate, Nat.reduceMul, emp1, headRow, rowOf, nilTest, V.take, V.drop, usesG, capUses, emp0, hdv, vops, vguard, vread, vdraw, vreadD, pop, ref, ev, cvalue, nonroot, PV.isRoot, setD, List.set, lenOf, binop, intop, reduceCtorEq, capsOf, cOf, look, get, lendCaps, lendAll, lend, lendCap, okRes, isAdr, capPV, List.map, List.any, List.append, mentOk, ments, Op.operands, loaded, Sh.plain, Fl.allfz, grab, upd, hit, V.put, unop, eqop, Fl.good, Fl.sound, Fl.l, Fl.r, Fl.el, fpath, Sh.zero, bound, Path.pre, below, skipPV, dif_pos, Nat.reduceBEq, vb_tt, vb_tf, vb_ft, vb_ff, List.getElem?_toArray, Call.operands, List.filterMap_nil, List.filterMap_cons, Nat.reduceAdd, List.contains_cons, Nat.reduceLT, Nat.reduceLeDiff, Nat.reduceSub, Nat.reduceEqDiff, Fl.wr, hitS, xback, lendX, vmix, pureOp, Fl.nofz, vio, vxgo, vmv, capOut, vs_a, vs_b, vs_c, vfloat, capBelow, Fl.unio, keepZ, nilP, moveTup, bq, tgs, List.getElem?_cons_succ, List.getElem?_cons_zero, Option.bind_some]
    refine vcall_of (contains_vc t 79 [.fadr (.int .i64) k, .fadr (.int .i64) (i : Int)] (taken k i) rfl (fun x => slots1_vc x k i) hl) ?_
    simp only [Sh.size, fillRow, fillSt, noH, PV.isH, Fl.sub, PV.isEmp, List.replicate, Nat.reduceMul, emp1, headRow, rowOf, nilTest, V.take, V.drop, usesG, capUses, emp0, hdv, vops, vguard, vread, vdraw, vreadD, pop, ref, ev, cvalue, nonroot, PV.isRoot, setD, List.set, lenOf, binop, intop, reduceCtorEq, capsOf, cOf, look, get, lendCaps, lendAll, lend, lendCap, okRes, isAdr, capPV, List.map, List.any, List.append, mentOk, ments, Op.operands, loaded, Sh.plain, Fl.allfz, grab, upd, hit, V.put, unop, eqop, Fl.good, Fl.sound, Fl.l, Fl.r, Fl.el, fpath, Sh.zero, bound, Path.pre, below, skipPV, dif_pos, Nat.reduceBEq, vb_tt, vb_tf, vb_ft, vb_ff, List.getElem?_toArray, Call.operands, List.filterMap_nil, List.filterMap_cons, Nat.reduceAdd, List.contains_cons, Nat.reduceLT, Nat.reduceLeDiff, Nat.reduceSub, Nat.reduceEqDiff, Fl.wr, hitS, xback, lendX, vmix, pureOp, Fl.nofz, vio, vxgo, vmv, capOut, vs_a, vs_b, vs_c, vfloat, capBelow, Fl.unio, keepZ, nilP, moveTup, bq, tgs, List.getElem?_cons_succ, List.getElem?_cons_zero, Option.bind_some]
    refine hK _ ?_
    clear hK K
    try refine vthen_n ?_
    repeat refine VW.seq ?_
    refine VW.cond rfl (fun hc => ?_) (fun hc => ?_)
    · repeat refine VW.seq ?_
      refine VW.regl hT fun K hK => ?_
      simp only [Sh.size, fillRow, fillSt, noH, PV.isH, Fl.sub, PV.isEmp, List.replicate, Nat.reduceMul, emp1, headRow, rowOf, nilTest, V.take, V.drop, usesG, capUses, emp0, hdv, vops, vguard, vread, vdraw, vreadD, pop, ref, ev, cvalue, nonroot, PV.isRoot, setD, List.set, lenOf, binop, intop, reduceCtorEq, capsOf, cOf, look, get, lendCaps, lendAll, lend, lendCap, okRes, isAdr, capPV, List.map, List.any, List.append, mentOk, ments, Op.operands, loaded, Sh.plain, Fl.allfz, grab, upd, hit, V.put, unop, eqop, Fl.good, Fl.sound, Fl.l, Fl.r, Fl.el, fpath, Sh.zero, bound, Path.pre, below, skipPV, dif_pos, Nat.reduceBEq, vb_tt, vb_tf, vb_ft, vb_ff, List.getElem?_toArray, Call.operands, List.filterMap_nil, List.filterMap_cons, Nat.reduceAdd, List.contains_cons, Nat.reduceLT, Nat.reduceLeDiff, Nat.reduceSub, Nat.reduceEqDiff, Fl.wr, hitS, xback, lendX, vmix, pureOp, Fl.nofz, vio, vxgo, vmv, capOut, vs_a, vs_b, vs_c, vfloat, capBelow, Fl.unio, keepZ, nilP, moveTup, bq, tgs, List.getElem?_cons_succ, List.getElem?_cons_zero, Option.bind_some]
      refine ⟨by simp [limOk]; omega, ?_⟩
      refine hK _ ?_
      clear hK K
      try refine vthen_n ?_
      show vthen _ _ _ .normal _
      refine vthen_n ?_
      repeat refine VW.seq ?_
      refine VW.regl hT fun K hK => ?_
      simp only [Sh.size, fillRow, fillSt, noH, PV.isH, Fl.sub, PV.isEmp, List.replicate, Nat.reduceMul, emp1, headRow, rowOf, nilTest, V.take, V.drop, usesG, capUses, emp0, hdv, vops, vguard, vread, vdraw, vreadD, pop, ref, ev, cvalue, nonroot, PV.isRoot, setD, List.set, lenOf, binop, intop, reduceCtorEq, capsOf, cOf, look, get, lendCaps, lendAll, lend, lendCap, okRes, isAdr, capPV, List.map, List.any, List.append, mentOk, ments, Op.operands, loaded, Sh.plain, Fl.allfz, grab, upd, hit, V.put, unop, eqop, Fl.good, Fl.sound, Fl.l, Fl.r, Fl.el, fpath, Sh.zero, bound, Path.pre, below, skipPV, dif_pos, Nat.reduceBEq, vb_tt, vb_tf, vb_ft, vb_ff, List.getElem?_toArray, Call.operands, List.filterMap_nil, List.filterMap_cons, Nat.reduceAdd, List.contains_cons, Nat.reduceLT, Nat.reduceLeDiff, Nat.reduceSub, Nat.reduceEqDiff, Fl.wr, hitS, xback, lendX, vmix, pureOp, Fl.nofz, vio, vxgo, vmv, capOut, vs_a, vs_b, vs_c, vfloat, capBelow, Fl.unio, keepZ, nilP, moveTup, bq, tgs, List.getElem?_cons_succ, List.getElem?_cons_zero, Option.bind_some]
      refine hK _ ?_
      clear hK K
      try refine vthen_n ?_
      refine ⟨i + 1, hlt, ?_, by show 4 - (i + 1) < 4 - i; omega⟩
      simp only [norm, homeOne, moveTo, keepS, keepGo, usesOut, List.foldl, ren, renC, Sh.size, fillRow, fillSt, noH, PV.isH, Fl.sub, PV.isEmp, List.replicate, Nat.reduceMul, emp1, headRow, rowOf, nilTest, V.take, V.drop, usesG, capUses, emp0, hdv, vops, vguard, vread, vdraw, vreadD, pop, ref, ev, cvalue, nonroot, PV.isRoot, setD, List.set, lenOf, binop, intop, reduceCtorEq, capsOf, cOf, look, get, lendCaps, lendAll, lend, lendCap, okRes, isAdr, capPV, List.map, List.any, List.append, mentOk, ments, Op.operands, loaded, Sh.plain, Fl.allfz, grab, upd, hit, V.put, unop, eqop, Fl.good, Fl.sound, Fl.l, Fl.r, Fl.el, fpath, Sh.zero, bound, Path.pre, below, skipPV, dif_pos, Nat.reduceBEq, vb_tt, vb_tf, vb_ft, vb_ff, List.getElem?_toArray, Call.operands, List.filterMap_nil, List.filterMap_cons, Nat.reduceAdd, List.contains_cons, Nat.reduceLT, Nat.reduceLeDiff, Nat.reduceSub, Nat.reduceEqDiff, Fl.wr, hitS, xback, lendX, vmix, pureOp, Fl.nofz, vio, vxgo, vmv, capOut, vs_a, vs_b, vs_c, vfloat, capBelow, Fl.unio, keepZ, nilP, moveTup, bq, tgs, List.getElem?_cons_succ, List.getElem?_cons_zero, Option.bind_some]
      rw [wrap64 (by omega) (by omega), slotsTo_succ, if_pos hc]
      rfl
    · refine VW.skip ?_
      show vthen _ _ _ .normal _
      refine vthen_n ?_
      repeat refine VW.seq ?_
      refine VW.regl hT fun K hK => ?_
      simp only [Sh.size, fillRow, fillSt, noH, PV.isH, Fl.sub, PV.isEmp, List.replicate, Nat.reduceMul, emp1, headRow, rowOf, nilTest, V.take, V.drop, usesG, capUses, emp0, hdv, vops, vguard, vread, vdraw, vreadD, pop, ref, ev, cvalue, nonroot, PV.isRoot, setD, List.set, lenOf, binop, intop, reduceCtorEq, capsOf, cOf, look, get, lendCaps, lendAll, lend, lendCap, okRes, isAdr, capPV, List.map, List.any, List.append, mentOk, ments, Op.operands, loaded, Sh.plain, Fl.allfz, grab, upd, hit, V.put, unop, eqop, Fl.good, Fl.sound, Fl.l, Fl.r, Fl.el, fpath, Sh.zero, bound, Path.pre, below, skipPV, dif_pos, Nat.reduceBEq, vb_tt, vb_tf, vb_ft, vb_ff, List.getElem?_toArray, Call.operands, List.filterMap_nil, List.filterMap_cons, Nat.reduceAdd, List.contains_cons, Nat.reduceLT, Nat.reduceLeDiff, Nat.reduceSub, Nat.reduceEqDiff, Fl.wr, hitS, xback, lendX, vmix, pureOp, Fl.nofz, vio, vxgo, vmv, capOut, vs_a, vs_b, vs_c, vfloat, capBelow, Fl.unio, keepZ, nilP, moveTup, bq, tgs, List.getElem?_cons_succ, List.getElem?_cons_zero, Option.bind_some]
      refine hK _ ?_
      clear hK K
      try refine vthen_n ?_
      refine ⟨i + 1, hlt, ?_, by show 4 - (i + 1) < 4 - i; omega⟩
      simp only [norm, homeOne, moveTo, keepS, keepGo, usesOut, List.foldl, ren, renC, Sh.size, fillRow, fillSt, noH, PV.isH, Fl.sub, PV.isEmp, List.replicate, Nat.reduceMul, emp1, headRow, rowOf, nilTest, V.take, V.drop, usesG, capUses, emp0, hdv, vops, vguard, vread, vdraw, vreadD, pop, ref, ev, cvalue, nonroot, PV.isRoot, setD, List.set, lenOf, binop, intop, reduceCtorEq, capsOf, cOf, look, get, lendCaps, lendAll, lend, lendCap, okRes, isAdr, capPV, List.map, List.any, List.append, mentOk, ments, Op.operands, loaded, Sh.plain, Fl.allfz, grab, upd, hit, V.put, unop, eqop, Fl.good, Fl.sound, Fl.l, Fl.r, Fl.el, fpath, Sh.zero, bound, Path.pre, below, skipPV, dif_pos, Nat.reduceBEq, vb_tt, vb_tf, vb_ft, vb_ff, List.getElem?_toArray, Call.operands, List.filterMap_nil, List.filterMap_cons, Nat.reduceAdd, List.contains_cons, Nat.reduceLT, Nat.reduceLeDiff, Nat.reduceSub, Nat.reduceEqDiff, Fl.wr, hitS, xback, lendX, vmix, pureOp, Fl.nofz, vio, vxgo, vmv, capOut, vs_a, vs_b, vs_c, vfloat, capBelow, Fl.unio, keepZ, nilP, moveTup, bq, tgs, List.getElem?_cons_succ, List.getElem?_cons_zero, Option.bind_some]
      rw [wrap64 (by omega) (by omega), slotsTo_succ, if_neg (by rw [show (!t.any (taken k i)) = false from hc]; exact Bool.false_ne_true), List.append_nil]
      rfl
  · have hge : (4 : Int) ≤ i := by simpa using hc
    obtain rfl : i = 4 := by omega
    refine VW.exit ?_
    show vthen _ _ _ .normal _
    refine vthen_n ?_
    repeat refine VW.seq ?_
    refine VW.regl hT fun K hK => ?_
    simp only [Sh.size, fillRow, fillSt, noH, PV.isH, Fl.sub, PV.isEmp, List.replicate, Nat.reduceMul, emp1, headRow, rowOf, nilTest, V.take, V.drop, usesG, capUses, emp0, hdv, vops, vguard, vread, vdraw, vreadD, pop, ref, ev, cvalue, nonroot, PV.isRoot, setD, List.set, lenOf, binop, intop, reduceCtorEq, capsOf, cOf, look, get, lendCaps, lendAll, lend, lendCap, okRes, isAdr, capPV, List.map, List.any, List.append, mentOk, ments, Op.operands, loaded, Sh.plain, Fl.allfz, grab, upd, hit, V.put, unop, eqop, Fl.good, Fl.sound, Fl.l, Fl.r, Fl.el, fpath, Sh.zero, bound, Path.pre, below, skipPV, dif_pos, Nat.reduceBEq, vb_tt, vb_tf, vb_ft, vb_ff, List.getElem?_toArray, Call.operands, List.filterMap_nil, List.filterMap_cons, Nat.reduceAdd, List.contains_cons, Nat.reduceLT, Nat.reduceLeDiff, Nat.reduceSub, Nat.reduceEqDiff, Fl.wr, hitS, xback, lendX, vmix, pureOp, Fl.nofz, vio, vxgo, vmv, capOut, vs_a, vs_b, vs_c, vfloat, capBelow, Fl.unio, keepZ, nilP, moveTup, bq, tgs, List.getElem?_cons_succ, List.getElem?_cons_zero, Option.bind_some]
    refine hK _ ?_
    clear hK K
    try refine vthen_n ?_
    refine VW.ret ⟨.inl rfl, _, rfl, ?_⟩
    simp only [slotsOf, hok, hbr, and_self, if_true]
end Go.Proofs.Yteeklekfafedcaa.V.W

/- laws.FnWakes walked: the law. No condition. -/
import Derived.Test.YteeklekfafedcaaW18
import Derived.Test.YteeklekfafedcaaW19
import Derived.Test.YteeklekfafedcaaV23
set_option linter.unusedVariables false
set_option linter.unnecessarySimpa false
set_option linter.unusedSimpArgs false
namespace Go.Proofs.Yteeklekfafedcaa.V.W
open Go Go.RowKit
set_option maxRecDepth 40000 in
theorem wakes_vc (b : List Int) : VC Try.prog 11 [.v false sB b] (· = .v false .bool (true)) := by
  refine VC.of_body hT Try.func11 rfl (by kernel_rfl) [(.tmp 2, false, .bool)] (by kernel_rfl) ?_
  show VW _ _ ([.v false sB b, D, D, D, D, D, D, D, D, D, D, D, D, D, D, D, D, D, D, D, D, D, D, D, D, D, D, D, D, D, D, D, D, D, D, D, D, D, D, D, D, D, D, D, D, D, D, D, D, D, D, D, D, D, D, D, D, D, D, D, D, D, D, D, D, D, D, D, D, D, D, D, D, D, D, D, D, D, D, D, D, D, D, D, D, D, D, D, D, D, D, D, D, D, D, D, D, D, D, D, D, D, D, D, D, D, D, D, D, D, D, D, D, D, D, D, D, D, D, D, D, D, D, D, D, D, D, D, D, D, D, D]) _
  repeat refine VW.seq ?_
  refine VW.regl hT fun K hK => ?_
  simp only [Sh.size, fillRow, fillSt, noH, PV.isH, Fl.sub, PV.isEmp, List.replicate, Nat.reduceMul, emp1, headRow, rowOf, nilTest, V.take, V.drop, usesG, capUses, emp0, hdv, vops, vguard, vread, vdraw, vreadD, pop, ref, ev, cvalue, nonroot, PV.isRoot, setD, List.set, lenOf, binop, intop, reduceCtorEq, capsOf, cOf, look, get, lendCaps, lendAll, lend, lendCap, okRes, isAdr, capPV, List.map, List.any, List.append, mentOk, ments, Op.operands, loaded, Sh.plain, Fl.allfz, grab, upd, hit, V.put, unop, eqop, Fl.good, Fl.sound, Fl.l, Fl.r, Fl.el, fpath, Sh.zero, bound, Path.pre, below, skipPV, dif_pos, Nat.reduceBEq, vb_tt, vb_tf, vb_ft, vb_ff, List.getElem?_toArray, Call.operands, List.filterMap_nil, List.filterMap_cons, Nat.reduceAdd, List.contains_cons, Nat.reduceLT, Nat.reduceLeDiff, Nat.reduceSub, Nat.reduceEqDiff, Fl.wr, hitS, xback, lendX, vmix, pureOp, Fl.nofz, vio, vxgo, vmv, capOut, vs_a, vs_b, vs_c, vfloat, capBelow, Fl.unio, keepZ, nilP, moveTup, bq, tgs, List.getElem?_cons_succ, List.getElem?_cons_zero, Option.bind_some]
  refine hK _ ?_
  clear hK K
  try refine vthen_n ?_
  repeat refine VW.seq ?_
  refine VW.regl hT fun K hK => ?_
  simp only [Sh.size, fillRow, fillSt, noH, PV.isH, Fl.sub, PV.isEmp, List.replicate, Nat.reduceMul, emp1, headRow, rowOf, nilTest, V.take, V.drop, usesG, capUses, emp0, hdv, vops, vguard, vread, vdraw, vreadD, pop, ref, ev, cvalue, nonroot, PV.isRoot, setD, List.set, lenOf, binop, intop, reduceCtorEq, capsOf, cOf, look, get, lendCaps, lendAll, lend, lendCap, okRes, isAdr, capPV, List.map, List.any, List.append, mentOk, ments, Op.operands, loaded, Sh.plain, Fl.allfz, grab, upd, hit, V.put, unop, eqop, Fl.good, Fl.sound, Fl.l, Fl.r, Fl.el, fpath, Sh.zero, bound, Path.pre, below, skipPV, dif_pos, Nat.reduceBEq, vb_tt, vb_tf, vb_ft, vb_ff, List.getElem?_toArray, Call.operands, List.filterMap_nil, List.filterMap_cons, Nat.reduceAdd, List.contains_cons, Nat.reduceLT, Nat.reduceLeDiff, Nat.reduceSub, Nat.reduceEqDiff, Fl.wr, hitS, xback, lendX, vmix, pureOp, Fl.nofz, vio, vxgo, vmv, capOut, vs_a, vs_b, vs_c, vfloat, capBelow, Fl.unio, keepZ, nilP, moveTup, bq, tgs, List.getElem?_cons_succ, List.getElem?_cons_zero, Option.bind_some]
  refine vcall_of (big_vc b) ?_
  simp only [Sh.size, fillRow, fillSt, noH, PV.isH, Fl.sub, PV.isEmp, List.replicate, Nat.reduceMul, emp1, headRow, rowOf, nilTest, V.take, V.drop, usesG, capUses, emp0, hdv, vops, vguard, vread, vdraw, vreadD, pop, ref, ev, cvalue, nonroot, PV.isRoot, setD, List.set, lenOf, binop, intop, reduceCtorEq, capsOf, cOf, look, get, lendCaps, lendAll, lend, lendCap, okRes, isAdr, capPV, List.map, List.any, List.append, mentOk, ments, Op.operands, loaded, Sh.plain, Fl.allfz, grab, upd, hit, V.put, unop, eqop, Fl.good, Fl.sound, Fl.l, Fl.r, Fl.el, fpath, Sh.zero, bound, Path.pre, below, skipPV, dif_pos, Nat.reduceBEq, vb_tt, vb_tf, vb_ft, vb_ff, List.getElem?_toArray, Call.operands, List.filterMap_nil, List.filterMap_cons, Nat.reduceAdd, List.contains_cons, Nat.reduceLT, Nat.reduceLeDiff, Nat.reduceSub, Nat.reduceEqDiff, Fl.wr, hitS, xback, lendX, vmix, pureOp, Fl.nofz, vio, vxgo, vmv, capOut, vs_a, vs_b, vs_c, vfloat, capBelow, Fl.unio, keepZ, nilP, moveTup, bq, tgs, List.getElem?_cons_succ, List.getElem?_cons_zero, Option.bind_some]
  refine hK _ ?_
  clear hK K
  try refine vthen_n ?_
  repeat refine VW.seq ?_
  refine VW.cond rfl (fun hc => ?_) (fun hc => ?_)
  · repeat refine VW.seq ?_
    refine VW.regl hT fun K hK => ?_
    simp only [Sh.size, fillRow, fillSt, noH, PV.isH, Fl.sub, PV.isEmp, List.replicate, Nat.reduceMul, emp1, headRow, rowOf, nilTest, V.take, V.drop, usesG, capUses, emp0, hdv, vops, vguard, vread, vdraw, vreadD, pop, ref, ev, cvalue, nonroot, PV.isRoot, setD, List.set, lenOf, binop, intop, reduceCtorEq, capsOf, cOf, look, get, lendCaps, lendAll, lend, lendCap, okRes, isAdr, capPV, List.map, List.any, List.append, mentOk, ments, Op.operands, loaded, Sh.plain, Fl.allfz, grab, upd, hit, V.put, unop, eqop, Fl.good, Fl.sound, Fl.l, Fl.r, Fl.el, fpath, Sh.zero, bound, Path.pre, below, skipPV, dif_pos, Nat.reduceBEq, vb_tt, vb_tf, vb_ft, vb_ff, List.getElem?_toArray, Call.operands, List.filterMap_nil, List.filterMap_cons, Nat.reduceAdd, List.contains_cons, Nat.reduceLT, Nat.reduceLeDiff, Nat.reduceSub, Nat.reduceEqDiff, Fl.wr, hitS, xback, lendX, vmix, pureOp, Fl.nofz, vio, vxgo, vmv, capOut, vs_a, vs_b, vs_c, vfloat, capBelow, Fl.unio, keepZ, nilP, moveTup, bq, tgs, List.getElem?_cons_succ, List.getElem?_cons_zero, Option.bind_some]
    refine hK _ ?_
    clear hK K
    try refine vthen_n ?_
    exact VW.ret ⟨.inl rfl, _, rfl, rfl⟩
  have hl : b.length ≤ 1048576 := by
    have : ¬ (b.length : Int) > 1048576 := of_decide_eq_false hc
    omega
  refine VW.skip (vthen_n ?_)
  repeat refine VW.seq ?_
  refine VW.regl hT fun K hK => ?_
  simp only [Sh.size, fillRow, fillSt, noH, PV.isH, Fl.sub, PV.isEmp, List.replicate, Nat.reduceMul, emp1, headRow, rowOf, nilTest, V.take, V.drop, usesG, capUses, emp0, hdv, vops, vguard, vread, vdraw, vreadD, pop, ref, ev, cvalue, nonroot, PV.isRoot, setD, List.set, lenOf, binop, intop, reduceCtorEq, capsOf, cOf, look, get, lendCaps, lendAll, lend, lendCap, okRes, isAdr, capPV, List.map, List.any, List.append, mentOk, ments, Op.operands, loaded, Sh.plain, Fl.allfz, grab, upd, hit, V.put, unop, eqop, Fl.good, Fl.sound, Fl.l, Fl.r, Fl.el, fpath, Sh.zero, bound, Path.pre, below, skipPV, dif_pos, Nat.reduceBEq, vb_tt, vb_tf, vb_ft, vb_ff, List.getElem?_toArray, Call.operands, List.filterMap_nil, List.filterMap_cons, Nat.reduceAdd, List.contains_cons, Nat.reduceLT, Nat.reduceLeDiff, Nat.reduceSub, Nat.reduceEqDiff, Fl.wr, hitS, xback, lendX, vmix, pureOp, Fl.nofz, vio, vxgo, vmv, capOut, vs_a, vs_b, vs_c, vfloat, capBelow, Fl.unio, keepZ, nilP, moveTup, bq, tgs, List.getElem?_cons_succ, List.getElem?_cons_zero, Option.bind_some]
  refine vcall_ex (drawDepths_vc b hl) ?_
  rintro pv ⟨t, w, rfl, hok, hwl, hw⟩
  simp only [Sh.size, fillRow, fillSt, noH, PV.isH, Fl.sub, PV.isEmp, List.replicate, Nat.reduceMul, emp1, headRow, rowOf, nilTest, V.take, V.drop, usesG, capUses, emp0, hdv, vops, vguard, vread, vdraw, vreadD, pop, ref, ev, cvalue, nonroot, PV.isRoot, setD, List.set, lenOf, binop, intop, reduceCtorEq, capsOf, cOf, look, get, lendCaps, lendAll, lend, lendCap, okRes, isAdr, capPV, List.map, List.any, List.append, mentOk, ments, Op.operands, loaded, Sh.plain, Fl.allfz, grab, upd, hit, V.put, unop, eqop, Fl.good, Fl.sound, Fl.l, Fl.r, Fl.el, fpath, Sh.zero, bound, Path.pre, below, skipPV, dif_pos, Nat.reduceBEq, vb_tt, vb_tf, vb_ft, vb_ff, List.getElem?_toArray, Call.operands, List.filterMap_nil, List.filterMap_cons, Nat.reduceAdd, List.contains_cons, Nat.reduceLT, Nat.reduceLeDiff, Nat.reduceSub, Nat.reduceEqDiff, Fl.wr, hitS, xback, lendX, vmix, pureOp, Fl.nofz, vio, vxgo, vmv, capOut, vs_a, vs_b, vs_c, vfloat, capBelow, Fl.unio, keepZ, nilP, moveTup, bq, tgs, List.getElem?_cons_succ, List.getElem?_cons_zero, Option.bind_some]
  refine hK _ ?_
  clear hK K
  try refine vthen_n ?_
  repeat refine VW.seq ?_
  refine VW.regl hT fun K hK => ?_
  simp only [Sh.size, fillRow, fillSt, noH, PV.isH, Fl.sub, PV.isEmp, List.replicate, Nat.reduceMul, emp1, headRow, rowOf, nilTest, V.take, V.drop, usesG, capUses, emp0, hdv, vops, vguard, vread, vdraw, vreadD, pop, ref, ev, cvalue, nonroot, PV.isRoot, setD, List.set, lenOf, binop, intop, reduceCtorEq, capsOf, cOf, look, get, lendCaps, lendAll, lend, lendCap, okRes, isAdr, capPV, List.map, List.any, List.append, mentOk, ments, Op.operands, loaded, Sh.plain, Fl.allfz, grab, upd, hit, V.put, unop, eqop, Fl.good, Fl.sound, Fl.l, Fl.r, Fl.el, fpath, Sh.zero, bound, Path.pre, below, skipPV, dif_pos, Nat.reduceBEq, vb_tt, vb_tf, vb_ft, vb_ff, List.getElem?_toArray, Call.operands, List.filterMap_nil, List.filterMap_cons, Nat.reduceAdd, List.contains_cons, Nat.reduceLT, Nat.reduceLeDiff, Nat.reduceSub, Nat.reduceEqDiff, Fl.wr, hitS, xback, lendX, vmix, pureOp, Fl.nofz, vio, vxgo, vmv, capOut, vs_a, vs_b, vs_c, vfloat, capBelow, Fl.unio, keepZ, nilP, moveTup, bq, tgs, List.getElem?_cons_succ, List.getElem?_cons_zero, Option.bind_some]
  refine vcall_ex (drawPlaces_vc b hl) ?_
  rintro pv ⟨p, rfl, hp, hpr⟩
  simp only [Sh.size, fillRow, fillSt, noH, PV.isH, Fl.sub, PV.isEmp, List.replicate, Nat.reduceMul, emp1, headRow, rowOf, nilTest, V.take, V.drop, usesG, capUses, emp0, hdv, vops, vguard, vread, vdraw, vreadD, pop, ref, ev, cvalue, nonroot, PV.isRoot, setD, List.set, lenOf, binop, intop, reduceCtorEq, capsOf, cOf, look, get, lendCaps, lendAll, lend, lendCap, okRes, isAdr, capPV, List.map, List.any, List.append, mentOk, ments, Op.operands, loaded, Sh.plain, Fl.allfz, grab, upd, hit, V.put, unop, eqop, Fl.good, Fl.sound, Fl.l, Fl.r, Fl.el, fpath, Sh.zero, bound, Path.pre, below, skipPV, dif_pos, Nat.reduceBEq, vb_tt, vb_tf, vb_ft, vb_ff, List.getElem?_toArray, Call.operands, List.filterMap_nil, List.filterMap_cons, Nat.reduceAdd, List.contains_cons, Nat.reduceLT, Nat.reduceLeDiff, Nat.reduceSub, Nat.reduceEqDiff, Fl.wr, hitS, xback, lendX, vmix, pureOp, Fl.nofz, vio, vxgo, vmv, capOut, vs_a, vs_b, vs_c, vfloat, capBelow, Fl.unio, keepZ, nilP, moveTup, bq, tgs, List.getElem?_cons_succ, List.getElem?_cons_zero, Option.bind_some]
  refine hK _ ?_
  clear hK K
  try refine vthen_n ?_
  have htl := treeOk_len hok
  have hdw : depthsOk t w = true := depthsOk_iff.2 ⟨hok, hwl, fun i hi => by have := hw _ (getD_memI hi); omega⟩
  obtain ⟨hso, hsl⟩ := settled_ok hok hdw
  repeat refine VW.seq ?_
  refine VW.regl hT fun K hK => ?_
  simp only [Sh.size, fillRow, fillSt, noH, PV.isH, Fl.sub, PV.isEmp, List.replicate, Nat.reduceMul, emp1, headRow, rowOf, nilTest, V.take, V.drop, usesG, capUses, emp0, hdv, vops, vguard, vread, vdraw, vreadD, pop, ref, ev, cvalue, nonroot, PV.isRoot, setD, List.set, lenOf, binop, intop, reduceCtorEq, capsOf, cOf, look, get, lendCaps, lendAll, lend, lendCap, okRes, isAdr, capPV, List.map, List.any, List.append, mentOk, ments, Op.operands, loaded, Sh.plain, Fl.allfz, grab, upd, hit, V.put, unop, eqop, Fl.good, Fl.sound, Fl.l, Fl.r, Fl.el, fpath, Sh.zero, bound, Path.pre, below, skipPV, dif_pos, Nat.reduceBEq, vb_tt, vb_tf, vb_ft, vb_ff, List.getElem?_toArray, Call.operands, List.filterMap_nil, List.filterMap_cons, Nat.reduceAdd, List.contains_cons, Nat.reduceLT, Nat.reduceLeDiff, Nat.reduceSub, Nat.reduceEqDiff, Fl.wr, hitS, xback, lendX, vmix, pureOp, Fl.nofz, vio, vxgo, vmv, capOut, vs_a, vs_b, vs_c, vfloat, capBelow, Fl.unio, keepZ, nilP, moveTup, bq, tgs, List.getElem?_cons_succ, List.getElem?_cons_zero, Option.bind_some]
  refine vcall_of (settle_vc t w hdw) ?_
  simp only [Sh.size, fillRow, fillSt, noH, PV.isH, Fl.sub, PV.isEmp, List.replicate, Nat.reduceMul, emp1, headRow, rowOf, nilTest, V.take, V.drop, usesG, capUses, emp0, hdv, vops, vguard, vread, vdraw, vreadD, pop, ref, ev, cvalue, nonroot, PV.isRoot, setD, List.set, lenOf, binop, intop, reduceCtorEq, capsOf, cOf, look, get, lendCaps, lendAll, lend, lendCap, okRes, isAdr, capPV, List.map, List.any, List.append, mentOk, ments, Op.operands, loaded, Sh.plain, Fl.allfz, grab, upd, hit, V.put, unop, eqop, Fl.good, Fl.sound, Fl.l, Fl.r, Fl.el, fpath, Sh.zero, bound, Path.pre, below, skipPV, dif_pos, Nat.reduceBEq, vb_tt, vb_tf, vb_ft, vb_ff, List.getElem?_toArray, Call.operands, List.filterMap_nil, List.filterMap_cons, Nat.reduceAdd, List.contains_cons, Nat.reduceLT, Nat.reduceLeDiff, Nat.reduceSub, Nat.reduceEqDiff, Fl.wr, hitS, xback, lendX, vmix, pureOp, Fl.nofz, vio, vxgo, vmv, capOut, vs_a, vs_b, vs_c, vfloat, capBelow, Fl.unio, keepZ, nilP, moveTup, bq, tgs, List.getElem?_cons_succ, List.getElem?_cons_zero, Option.bind_some]
  generalize settled t w = s at hso hsl
  refine hK _ ?_
  clear hK K
  try refine vthen_n ?_
  have hp0 : p.getD 0 0 ∈ p := getD_memI (by omega)
  have hp1 := hpr _ hp0
  repeat refine VW.seq ?_
  refine VW.regl hT fun K hK => ?_
  simp only [Sh.size, fillRow, fillSt, noH, PV.isH, Fl.sub, PV.isEmp, List.replicate, Nat.reduceMul, emp1, headRow, rowOf, nilTest, V.take, V.drop, usesG, capUses, emp0, hdv, vops, vguard, vread, vdraw, vreadD, pop, ref, ev, cvalue, nonroot, PV.isRoot, setD, List.set, lenOf, binop, intop, reduceCtorEq, capsOf, cOf, look, get, lendCaps, lendAll, lend, lendCap, okRes, isAdr, capPV, List.map, List.any, List.append, mentOk, ments, Op.operands, loaded, Sh.plain, Fl.allfz, grab, upd, hit, V.put, unop, eqop, Fl.good, Fl.sound, Fl.l, Fl.r, Fl.el, fpath, Sh.zero, bound, Path.pre, below, skipPV, dif_pos, Nat.reduceBEq, vb_tt, vb_tf, vb_ft, vb_ff, List.getElem?_toArray, Call.operands, List.filterMap_nil, List.filterMap_cons, Nat.reduceAdd, List.contains_cons, Nat.reduceLT, Nat.reduceLeDiff, Nat.reduceSub, Nat.reduceEqDiff, Fl.wr, hitS, xback, lendX, vmix, pureOp, Fl.nofz, vio, vxgo, vmv, capOut, vs_a, vs_b, vs_c, vfloat, capBelow, Fl.unio, keepZ, nilP, moveTup, bq, tgs, List.getElem?_cons_succ, List.getElem?_cons_zero, Option.bind_some]
  refine ⟨decide_eq_true ⟨Int.le_refl _, by show (0 : Int) < (p.length : Int); omega⟩, decide_eq_false (by omega), ?_⟩
  refine hK _ ?_
  clear hK K
  try refine vthen_n ?_
  have hrem := rem_lt (a := p.getD 0 0) (n := (t.length : Int)) hp1.1 (by omega)
  obtain ⟨k, hk, hkl⟩ : ∃ k : Nat, Int.tmod (p.getD 0 0) (t.length : Int) = (k : Int) ∧ k < t.length := ⟨(Int.tmod (p.getD 0 0) (t.length : Int)).toNat, by omega, by omega⟩
  rw [show Int.tmod (p.getD (Int.toNat 0) 0) (t.length : Int) = (k : Int) from hk]
  repeat refine VW.seq ?_
  refine VW.regl hT fun K hK => ?_
  simp only [Sh.size, fillRow, fillSt, noH, PV.isH, Fl.sub, PV.isEmp, List.replicate, Nat.reduceMul, emp1, headRow, rowOf, nilTest, V.take, V.drop, usesG, capUses, emp0, hdv, vops, vguard, vread, vdraw, vreadD, pop, ref, ev, cvalue, nonroot, PV.isRoot, setD, List.set, lenOf, binop, intop, reduceCtorEq, capsOf, cOf, look, get, lendCaps, lendAll, lend, lendCap, okRes, isAdr, capPV, List.map, List.any, List.append, mentOk, ments, Op.operands, loaded, Sh.plain, Fl.allfz, grab, upd, hit, V.put, unop, eqop, Fl.good, Fl.sound, Fl.l, Fl.r, Fl.el, fpath, Sh.zero, bound, Path.pre, below, skipPV, dif_pos, Nat.reduceBEq, vb_tt, vb_tf, vb_ft, vb_ff, List.getElem?_toArray, Call.operands, List.filterMap_nil, List.filterMap_cons, Nat.reduceAdd, List.contains_cons, Nat.reduceLT, Nat.reduceLeDiff, Nat.reduceSub, Nat.reduceEqDiff, Fl.wr, hitS, xback, lendX, vmix, pureOp, Fl.nofz, vio, vxgo, vmv, capOut, vs_a, vs_b, vs_c, vfloat, capBelow, Fl.unio, keepZ, nilP, moveTup, bq, tgs, List.getElem?_cons_succ, List.getElem?_cons_zero, Option.bind_some]
  refine vcall_of (wake_vc t s k (by omega) (by omega)) ?_
  have hwk : wakeOk t s k = true := by
    unfold wakeOk
    rw [hso, inB_iff.2 (by omega)]; rfl
  rw [hwk, if_pos rfl]
  simp only [Sh.size, fillRow, fillSt, noH, PV.isH, Fl.sub, PV.isEmp, List.replicate, Nat.reduceMul, emp1, headRow, rowOf, nilTest, V.take, V.drop, usesG, capUses, emp0, hdv, vops, vguard, vread, vdraw, vreadD, pop, ref, ev, cvalue, nonroot, PV.isRoot, setD, List.set, lenOf, binop, intop, reduceCtorEq, capsOf, cOf, look, get, lendCaps, lendAll, lend, lendCap, okRes, isAdr, capPV, List.map, List.any, List.append, mentOk, ments, Op.operands, loaded, Sh.plain, Fl.allfz, grab, upd, hit, V.put, unop, eqop, Fl.good, Fl.sound, Fl.l, Fl.r, Fl.el, fpath, Sh.zero, bound, Path.pre, below, skipPV, dif_pos, Nat.reduceBEq, vb_tt, vb_tf, vb_ft, vb_ff, List.getElem?_toArray, Call.operands, List.filterMap_nil, List.filterMap_cons, Nat.reduceAdd, List.contains_cons, Nat.reduceLT, Nat.reduceLeDiff, Nat.reduceSub, Nat.reduceEqDiff, Fl.wr, hitS, xback, lendX, vmix, pureOp, Fl.nofz, vio, vxgo, vmv, capOut, vs_a, vs_b, vs_c, vfloat, capBelow, Fl.unio, keepZ, nilP, moveTup, bq, tgs, List.getElem?_cons_succ, List.getElem?_cons_zero, Option.bind_some]
  refine hK _ ?_
  clear hK K
  try refine vthen_n ?_
  have hxo := wake_ok (k := (k : Int)) hso
  have hxl := zeros_len (pathTo t k) s
  have hxg : ∀ m, m < t.length → (zeros s (pathTo t k)).getD m 0 = if (pathTo t k).contains (m : Int) = true then 0 else s.getD m 0 := fun m hm => zeros_get (fun x hx => (pathTo_mem hx).1) (by omega)
  generalize zeros s (pathTo t k) = x at hxo hxl hxg
  have hpl := pathTo_len t k
  repeat refine VW.seq ?_
  refine VW.regl hT fun K hK => ?_
  simp only [Sh.size, fillRow, fillSt, noH, PV.isH, Fl.sub, PV.isEmp, List.replicate, Nat.reduceMul, emp1, headRow, rowOf, nilTest, V.take, V.drop, usesG, capUses, emp0, hdv, vops, vguard, vread, vdraw, vreadD, pop, ref, ev, cvalue, nonroot, PV.isRoot, setD, List.set, lenOf, binop, intop, reduceCtorEq, capsOf, cOf, look, get, lendCaps, lendAll, lend, lendCap, okRes, isAdr, capPV, List.map, List.any, List.append, mentOk, ments, Op.operands, loaded, Sh.plain, Fl.allfz, grab, upd, hit, V.put, unop, eqop, Fl.good, Fl.sound, Fl.l, Fl.r, Fl.el, fpath, Sh.zero, bound, Path.pre, below, skipPV, dif_pos, Nat.reduceBEq, vb_tt, vb_tf, vb_ft, vb_ff, List.getElem?_toArray, Call.operands, List.filterMap_nil, List.filterMap_cons, Nat.reduceAdd, List.contains_cons, Nat.reduceLT, Nat.reduceLeDiff, Nat.reduceSub, Nat.reduceEqDiff, Fl.wr, hitS, xback, lendX, vmix, pureOp, Fl.nofz, vio, vxgo, vmv, capOut, vs_a, vs_b, vs_c, vfloat, capBelow, Fl.unio, keepZ, nilP, moveTup, bq, tgs, List.getElem?_cons_succ, List.getElem?_cons_zero, Option.bind_some]
  refine vcall_of (pathTo_vc t k (by omega)) ?_
  generalize pathTo t k = l at hxg hpl
  simp only [Sh.size, fillRow, fillSt, noH, PV.isH, Fl.sub, PV.isEmp, List.replicate, Nat.reduceMul, emp1, headRow, rowOf, nilTest, V.take, V.drop, usesG, capUses, emp0, hdv, vops, vguard, vread, vdraw, vreadD, pop, ref, ev, cvalue, nonroot, PV.isRoot, setD, List.set, lenOf, binop, intop, reduceCtorEq, capsOf, cOf, look, get, lendCaps, lendAll, lend, lendCap, okRes, isAdr, capPV, List.map, List.any, List.append, mentOk, ments, Op.operands, loaded, Sh.plain, Fl.allfz, grab, upd, hit, V.put, unop, eqop, Fl.good, Fl.sound, Fl.l, Fl.r, Fl.el, fpath, Sh.zero, bound, Path.pre, below, skipPV, dif_pos, Nat.reduceBEq, vb_tt, vb_tf, vb_ft, vb_ff, List.getElem?_toArray, Call.operands, List.filterMap_nil, List.filterMap_cons, Nat.reduceAdd, List.contains_cons, Nat.reduceLT, Nat.reduceLeDiff, Nat.reduceSub, Nat.reduceEqDiff, Fl.wr, hitS, xback, lendX, vmix, pureOp, Fl.nofz, vio, vxgo, vmv, capOut, vs_a, vs_b, vs_c, vfloat, capBelow, Fl.unio, keepZ, nilP, moveTup, bq, tgs, List.getElem?_cons_succ, List.getElem?_cons_zero, Option.bind_some]
  refine hK _ ?_
  clear hK K
  try refine vthen_n ?_
  repeat refine VW.seq ?_
  refine VW.regl hT fun K hK => ?_
  simp only [Sh.size, fillRow, fillSt, noH, PV.isH, Fl.sub, PV.isEmp, List.replicate, Nat.reduceMul, emp1, headRow, rowOf, nilTest, V.take, V.drop, usesG, capUses, emp0, hdv, vops, vguard, vread, vdraw, vreadD, pop, ref, ev, cvalue, nonroot, PV.isRoot, setD, List.set, lenOf, binop, intop, reduceCtorEq, capsOf, cOf, look, get, lendCaps, lendAll, lend, lendCap, okRes, isAdr, capPV, List.map, List.any, List.append, mentOk, ments, Op.operands, loaded, Sh.plain, Fl.allfz, grab, upd, hit, V.put, unop, eqop, Fl.good, Fl.sound, Fl.l, Fl.r, Fl.el, fpath, Sh.zero, bound, Path.pre, below, skipPV, dif_pos, Nat.reduceBEq, vb_tt, vb_tf, vb_ft, vb_ff, List.getElem?_toArray, Call.operands, List.filterMap_nil, List.filterMap_cons, Nat.reduceAdd, List.contains_cons, Nat.reduceLT, Nat.reduceLeDiff, Nat.reduceSub, Nat.reduceEqDiff, Fl.wr, hitS, xback, lendX, vmix, pureOp, Fl.nofz, vio, vxgo, vmv, capOut, vs_a, vs_b, vs_c, vfloat, capBelow, Fl.unio, keepZ, nilP, moveTup, bq, tgs, List.getElem?_cons_succ, List.getElem?_cons_zero, Option.bind_some]
  refine vcall_of (sleepOk_vc t x (by omega) (by omega)) ?_
  rw [hxo]
  simp only [Sh.size, fillRow, fillSt, noH, PV.isH, Fl.sub, PV.isEmp, List.replicate, Nat.reduceMul, emp1, headRow, rowOf, nilTest, V.take, V.drop, usesG, capUses, emp0, hdv, vops, vguard, vread, vdraw, vreadD, pop, ref, ev, cvalue, nonroot, PV.isRoot, setD, List.set, lenOf, binop, intop, reduceCtorEq, capsOf, cOf, look, get, lendCaps, lendAll, lend, lendCap, okRes, isAdr, capPV, List.map, List.any, List.append, mentOk, ments, Op.operands, loaded, Sh.plain, Fl.allfz, grab, upd, hit, V.put, unop, eqop, Fl.good, Fl.sound, Fl.l, Fl.r, Fl.el, fpath, Sh.zero, bound, Path.pre, below, skipPV, dif_pos, Nat.reduceBEq, vb_tt, vb_tf, vb_ft, vb_ff, List.getElem?_toArray, Call.operands, List.filterMap_nil, List.filterMap_cons, Nat.reduceAdd, List.contains_cons, Nat.reduceLT, Nat.reduceLeDiff, Nat.reduceSub, Nat.reduceEqDiff, Fl.wr, hitS, xback, lendX, vmix, pureOp, Fl.nofz, vio, vxgo, vmv, capOut, vs_a, vs_b, vs_c, vfloat, capBelow, Fl.unio, keepZ, nilP, moveTup, bq, tgs, List.getElem?_cons_succ, List.getElem?_cons_zero, Option.bind_some]
  refine hK _ ?_
  clear hK K
  try refine vthen_n ?_
  repeat refine VW.seq ?_
  refine VW.cond rfl (fun hc => ?_) (fun hc => ?_)
  · have h2 : (!((x.length : Int) == (t.length : Int))) = true := hc
    rw [show ((x.length : Int) == (t.length : Int)) = true by rw [beq_iff_eq]; omega] at h2
    cases h2
  refine VW.skip (vthen_n ?_)
  repeat refine VW.seq ?_
  refine VW.regl hT fun K hK => ?_
  simp only [Sh.size, fillRow, fillSt, noH, PV.isH, Fl.sub, PV.isEmp, List.replicate, Nat.reduceMul, emp1, headRow, rowOf, nilTest, V.take, V.drop, usesG, capUses, emp0, hdv, vops, vguard, vread, vdraw, vreadD, pop, ref, ev, cvalue, nonroot, PV.isRoot, setD, List.set, lenOf, binop, intop, reduceCtorEq, capsOf, cOf, look, get, lendCaps, lendAll, lend, lendCap, okRes, isAdr, capPV, List.map, List.any, List.append, mentOk, ments, Op.operands, loaded, Sh.plain, Fl.allfz, grab, upd, hit, V.put, unop, eqop, Fl.good, Fl.sound, Fl.l, Fl.r, Fl.el, fpath, Sh.zero, bound, Path.pre, below, skipPV, dif_pos, Nat.reduceBEq, vb_tt, vb_tf, vb_ft, vb_ff, List.getElem?_toArray, Call.operands, List.filterMap_nil, List.filterMap_cons, Nat.reduceAdd, List.contains_cons, Nat.reduceLT, Nat.reduceLeDiff, Nat.reduceSub, Nat.reduceEqDiff, Fl.wr, hitS, xback, lendX, vmix, pureOp, Fl.nofz, vio, vxgo, vmv, capOut, vs_a, vs_b, vs_c, vfloat, capBelow, Fl.unio, keepZ, nilP, moveTup, bq, tgs, List.getElem?_cons_succ, List.getElem?_cons_zero, Option.bind_some]
  refine hK _ ?_
  clear hK K
  try refine vthen_n ?_
  repeat refine VW.seq ?_
  refine VW.block ?_
  refine VW.loop (α := Nat) [(3, none), (6, none), (7, none), (8, none), (10, some (3, .int .i64)), (11, none), (19, none), (35, none)] (fun i => [D, D, D, .h false 19 [.l], D, D, .root (.val false) sI .own s, .v false (.int .i64) (k), .h false 35 [.l], D, .root (.val false) sI .own l, .v false (.int .i64) (i), D, D, D, D, D, D, D, .root (.tup [false, false]) (.pr sNS sI) (.pr .own .own) (t, w), D, D, D, D, D, D, D, D, D, D, D, D, D, D, D, .root (.tup [false, false]) (.pr sI .bool) (.pr .own .fz) (x, true), D, D, D, D, D, D, D, D, D, D, D, D, D, D, D, D, D, D, D, D, D, D, D, D, D, D, D, D, D, D, D, D, D, D, D, D, D, D, D, D, D, D, D, D, D, D, D, D, D, D, D, D, D, D, D, D, D, D, D, D, D, D, D, D, D, D, D, D, D, D, D, D, D, D, D, D, D, D, D, D, D, D, D, D, D, D, D, D, D, D, D, D, D, D, D, D]) (fun i => i ≤ t.length) (fun i => t.length - i) ⟨0, by omega, ?_⟩ fun i hi => ?_
  · simp only [norm, homeOne, moveTo, keepS, keepGo, usesOut, List.foldl, ren, renC, Sh.size, fillRow, fillSt, noH, PV.isH, Fl.sub, PV.isEmp, List.replicate, Nat.reduceMul, emp1, headRow, rowOf, nilTest, V.take, V.drop, usesG, capUses, emp0, hdv, vops, vguard, vread, vdraw, vreadD, pop, ref, ev, cvalue, nonroot, PV.isRoot, setD, List.set, lenOf, binop, intop, reduceCtorEq, capsOf, cOf, look, get, lendCaps, lendAll, lend, lendCap, okRes, isAdr, capPV, List.map, List.any, List.append, mentOk, ments, Op.operands, loaded, Sh.plain, Fl.allfz, grab, upd, hit, V.put, unop, eqop, Fl.good, Fl.sound, Fl.l, Fl.r, Fl.el, fpath, Sh.zero, bound, Path.pre, below, skipPV, dif_pos, Nat.reduceBEq, vb_tt, vb_tf, vb_ft, vb_ff, List.getElem?_toArray, Call.operands, List.filterMap_nil, List.filterMap_cons, Nat.reduceAdd, List.contains_cons, Nat.reduceLT, Nat.reduceLeDiff, Nat.reduceSub, Nat.reduceEqDiff, Fl.wr, hitS, xback, lendX, vmix, pureOp, Fl.nofz, vio, vxgo, vmv, capOut, vs_a, vs_b, vs_c, vfloat, capBelow, Fl.unio, keepZ, nilP, moveTup, bq, tgs, List.getElem?_cons_succ, List.getElem?_cons_zero, Option.bind_some]
    rfl
  repeat refine VW.seq ?_
  refine VW.regl hT fun K hK => ?_
  simp only [Sh.size, fillRow, fillSt, noH, PV.isH, Fl.sub, PV.isEmp, List.replicate, Nat.reduceMul, emp1, headRow, rowOf, nilTest, V.take, V.drop, usesG, capUses, emp0, hdv, vops, vguard, vread, vdraw, vreadD, pop, ref, ev, cvalue, nonroot, PV.isRoot, setD, List.set, lenOf, binop, intop, reduceCtorEq, capsOf, cOf, look, get, lendCaps, lendAll, lend, lendCap, okRes, isAdr, capPV, List.map, List.any, List.append, mentOk, ments, Op.operands, loaded, Sh.plain, Fl.allfz, grab, upd, hit, V.put, unop, eqop, Fl.good, Fl.sound, Fl.l, Fl.r, Fl.el, fpath, Sh.zero, bound, Path.pre, below, skipPV, dif_pos, Nat.reduceBEq, vb_tt, vb_tf, vb_ft, vb_ff, List.getElem?_toArray, Call.operands, List.filterMap_nil, List.filterMap_cons, Nat.reduceAdd, List.contains_cons, Nat.reduceLT, Nat.reduceLeDiff, Nat.reduceSub, Nat.reduceEqDiff, Fl.wr, hitS, xback, lendX, vmix, pureOp, Fl.nofz, vio, vxgo, vmv, capOut, vs_a, vs_b, vs_c, vfloat, capBelow, Fl.unio, keepZ, nilP, moveTup, bq, tgs, List.getElem?_cons_succ, List.getElem?_cons_zero, Option.bind_some]
  refine hK _ ?_
  clear hK K
  try refine vthen_n ?_
  repeat refine VW.seq ?_
  refine VW.cond rfl (fun hc => ?_) (fun hc => ?_)
  · have hlt : i < t.length := by simpa using hc
    have hxi := hxg i hlt
    have hi1 : decide (0 ≤ (i : Int) ∧ (i : Int) < (x.length : Int)) = true := decide_eq_true ⟨Int.natCast_nonneg _, by omega⟩
    have hi2 : decide (0 ≤ (i : Int) ∧ (i : Int) < (s.length : Int)) = true := decide_eq_true ⟨Int.natCast_nonneg _, by omega⟩
    refine VW.skip (vthen_n ?_)
    repeat refine VW.seq ?_
    refine VW.block ?_
    repeat refine VW.seq ?_
    refine VW.drawl hT hm (by kernel_rfl) fun K hK => ?_
    simp only [Sh.size, fillRow, fillSt, noH, PV.isH, Fl.sub, PV.isEmp, List.replicate, Nat.reduceMul, emp1, headRow, rowOf, nilTest, V.take, V.drop, usesG, capUses, emp0, hdv, vops, vguard, vread, vdraw, vreadD, pop, ref, ev, cvalue, nonroot, PV.isRoot, setD, List.set, lenOf, binop, intop, reduceCtorEq, capsOf, cOf, look, get, lendCaps, lendAll, lend, lendCap, okRes, isAdr, capPV, List.map, List.any, List.append, mentOk, ments, Op.operands, loaded, Sh.plain, Fl.allfz, grab, upd, hit, V.put, unop, eqop, Fl.good, Fl.sound, Fl.l, Fl.r, Fl.el, fpath, Sh.zero, bound, Path.pre, below, skipPV, dif_pos, Nat.reduceBEq, vb_tt, vb_tf, vb_ft, vb_ff, List.getElem?_toArray, Call.operands, List.filterMap_nil, List.filterMap_cons, Nat.reduceAdd, List.contains_cons, Nat.reduceLT, Nat.reduceLeDiff, Nat.reduceSub, Nat.reduceEqDiff, Fl.wr, hitS, xback, lendX, vmix, pureOp, Fl.nofz, vio, vxgo, vmv, capOut, vs_a, vs_b, vs_c, vfloat, capBelow, Fl.unio, keepZ, nilP, moveTup, bq, tgs, List.getElem?_cons_succ, List.getElem?_cons_zero, Option.bind_some]
    refine ⟨by kernel_rfl, by kernel_rfl, ?_⟩
    refine vcallD_of (has_vc l i (by omega)) ?_
    simp only [Sh.size, fillRow, fillSt, noH, PV.isH, Fl.sub, PV.isEmp, List.replicate, Nat.reduceMul, emp1, headRow, rowOf, nilTest, V.take, V.drop, usesG, capUses, emp0, hdv, vops, vguard, vread, vdraw, vreadD, pop, ref, ev, cvalue, nonroot, PV.isRoot, setD, List.set, lenOf, binop, intop, reduceCtorEq, capsOf, cOf, look, get, lendCaps, lendAll, lend, lendCap, okRes, isAdr, capPV, List.map, List.any, List.append, mentOk, ments, Op.operands, loaded, Sh.plain, Fl.allfz, grab, upd, hit, V.put, unop, eqop, Fl.good, Fl.sound, Fl.l, Fl.r, Fl.el, fpath, Sh.zero, bound, Path.pre, below, skipPV, dif_pos, Nat.reduceBEq, vb_tt, vb_tf, vb_ft, vb_ff, List.getElem?_toArray, Call.operands, List.filterMap_nil, List.filterMap_cons, Nat.reduceAdd, List.contains_cons, Nat.reduceLT, Nat.reduceLeDiff, Nat.reduceSub, Nat.reduceEqDiff, Fl.wr, hitS, xback, lendX, vmix, pureOp, Fl.nofz, vio, vxgo, vmv, capOut, vs_a, vs_b, vs_c, vfloat, capBelow, Fl.unio, keepZ, nilP, moveTup, bq, tgs, List.getElem?_cons_succ, List.getElem?_cons_zero, Option.bind_some]
    refine vbr (fun g => ?_) (fun g => ?_) <;> simp only [Sh.size, fillRow, fillSt, noH, PV.isH, Fl.sub, PV.isEmp, List.replicate, Nat.reduceMul, emp1, headRow, rowOf, nilTest, V.take, V.drop, usesG, capUses, emp0, hdv, vops, vguard, vread, vdraw, vreadD, pop, ref, ev, cvalue, nonroot, PV.isRoot, setD, List.set, lenOf, binop, intop, reduceCtorEq, capsOf, cOf, look, get, lendCaps, lendAll, lend, lendCap, okRes, isAdr, capPV, List.map, List.any, List.append, mentOk, ments, Op.operands, loaded, Sh.plain, Fl.allfz, grab, upd, hit, V.put, unop, eqop, Fl.good, Fl.sound, Fl.l, Fl.r, Fl.el, fpath, Sh.zero, bound, Path.pre, below, skipPV, dif_pos, Nat.reduceBEq, vb_tt, vb_tf, vb_ft, vb_ff, List.getElem?_toArray, Call.operands, List.filterMap_nil, List.filterMap_cons, Nat.reduceAdd, List.contains_cons, Nat.reduceLT, Nat.reduceLeDiff, Nat.reduceSub, Nat.reduceEqDiff, Fl.wr, hitS, xback, lendX, vmix, pureOp, Fl.nofz, vio, vxgo, vmv, capOut, vs_a, vs_b, vs_c, vfloat, capBelow, Fl.unio, keepZ, nilP, moveTup, bq, tgs, List.getElem?_cons_succ, List.getElem?_cons_zero, Option.bind_some]
    · rw [if_pos (show l.contains (i : Int) = true from g)] at hxi
      rw [hxi]
      refine ⟨by kernel_rfl, by kernel_rfl, hi1, by kernel_rfl, ?_⟩
      simp only [Sh.size, fillRow, fillSt, noH, PV.isH, Fl.sub, PV.isEmp, List.replicate, Nat.reduceMul, emp1, headRow, rowOf, nilTest, V.take, V.drop, usesG, capUses, emp0, hdv, vops, vguard, vread, vdraw, vreadD, pop, ref, ev, cvalue, nonroot, PV.isRoot, setD, List.set, lenOf, binop, intop, reduceCtorEq, capsOf, cOf, look, get, lendCaps, lendAll, lend, lendCap, okRes, isAdr, capPV, List.map, List.any, List.append, mentOk, ments, Op.operands, loaded, Sh.plain, Fl.allfz, grab, upd, hit, V.put, unop, eqop, Fl.good, Fl.sound, Fl.l, Fl.r, Fl.el, fpath, Sh.zero, bound, Path.pre, below, skipPV, dif_pos, Nat.reduceBEq, vb_tt, vb_tf, vb_ft, vb_ff, List.getElem?_toArray, Call.operands, List.filterMap_nil, List.filterMap_cons, Nat.reduceAdd, List.contains_cons, Nat.reduceLT, Nat.reduceLeDiff, Nat.reduceSub, Nat.reduceEqDiff, Fl.wr, hitS, xback, lendX, vmix, pureOp, Fl.nofz, vio, vxgo, vmv, capOut, vs_a, vs_b, vs_c, vfloat, capBelow, Fl.unio, keepZ, nilP, moveTup, bq, tgs, List.getElem?_cons_succ, List.getElem?_cons_zero, Option.bind_some]
      refine ⟨by kernel_rfl, by kernel_rfl, ?_⟩
      refine vcallD_of (has_vc l i (by omega)) ?_
      rw [show l.contains (i : Int) = true from g]
      simp only [Sh.size, fillRow, fillSt, noH, PV.isH, Fl.sub, PV.isEmp, List.replicate, Nat.reduceMul, emp1, headRow, rowOf, nilTest, V.take, V.drop, usesG, capUses, emp0, hdv, vops, vguard, vread, vdraw, vreadD, pop, ref, ev, cvalue, nonroot, PV.isRoot, setD, List.set, lenOf, binop, intop, reduceCtorEq, capsOf, cOf, look, get, lendCaps, lendAll, lend, lendCap, okRes, isAdr, capPV, List.map, List.any, List.append, mentOk, ments, Op.operands, loaded, Sh.plain, Fl.allfz, grab, upd, hit, V.put, unop, eqop, Fl.good, Fl.sound, Fl.l, Fl.r, Fl.el, fpath, Sh.zero, bound, Path.pre, below, skipPV, dif_pos, Nat.reduceBEq, vb_tt, vb_tf, vb_ft, vb_ff, List.getElem?_toArray, Call.operands, List.filterMap_nil, List.filterMap_cons, Nat.reduceAdd, List.contains_cons, Nat.reduceLT, Nat.reduceLeDiff, Nat.reduceSub, Nat.reduceEqDiff, Fl.wr, hitS, xback, lendX, vmix, pureOp, Fl.nofz, vio, vxgo, vmv, capOut, vs_a, vs_b, vs_c, vfloat, capBelow, Fl.unio, keepZ, nilP, moveTup, bq, tgs, List.getElem?_cons_succ, List.getElem?_cons_zero, Option.bind_some]
      refine hK _ ?_
      clear hK K
      try refine vthen_n ?_
      repeat refine VW.seq ?_
      refine VW.cond rfl (fun hc => ?_) (fun hc => ?_)
      · cases hc
      refine VW.skip ?_
      show vthen _ _ _ .normal _
      refine vthen_n ?_
      repeat refine VW.seq ?_
      refine VW.regl hT fun K hK => ?_
      simp only [Sh.size, fillRow, fillSt, noH, PV.isH, Fl.sub, PV.isEmp, List.replicate, Nat.reduceMul, emp1, headRow, rowOf, nilTest, V.take, V.drop, usesG, capUses, emp0, hdv, vops, vguard, vread, vdraw, vreadD, pop, ref, ev, cvalue, nonroot, PV.isRoot, setD, List.set, lenOf, binop, intop, reduceCtorEq, capsOf, cOf, look, get, lendCaps, lendAll, lend, lendCap, okRes, isAdr, capPV, List.map, List.any, List.append, mentOk, ments, Op.operands, loaded, Sh.plain, Fl.allfz, grab, upd, hit, V.put, unop, eqop, Fl.good, Fl.sound, Fl.l, Fl.r, Fl.el, fpath, Sh.zero, bound, Path.pre, below, skipPV, dif_pos, Nat.reduceBEq, vb_tt, vb_tf, vb_ft, vb_ff, List.getElem?_toArray, Call.operands, List.filterMap_nil, List.filterMap_cons, Nat.reduceAdd, List.contains_cons, Nat.reduceLT, Nat.reduceLeDiff, Nat.reduceSub, Nat.reduceEqDiff, Fl.wr, hitS, xback, lendX, vmix, pureOp, Fl.nofz, vio, vxgo, vmv, capOut, vs_a, vs_b, vs_c, vfloat, capBelow, Fl.unio, keepZ, nilP, moveTup, bq, tgs, List.getElem?_cons_succ, List.getElem?_cons_zero, Option.bind_some]
      refine hK _ ?_
      clear hK K
      try refine vthen_n ?_
      refine ⟨i + 1, hlt, ?_, by show t.length - (i + 1) < t.length - i; omega⟩
      simp only [norm, homeOne, moveTo, keepS, keepGo, usesOut, List.foldl, ren, renC, Sh.size, fillRow, fillSt, noH, PV.isH, Fl.sub, PV.isEmp, List.replicate, Nat.reduceMul, emp1, headRow, rowOf, nilTest, V.take, V.drop, usesG, capUses, emp0, hdv, vops, vguard, vread, vdraw, vreadD, pop, ref, ev, cvalue, nonroot, PV.isRoot, setD, List.set, lenOf, binop, intop, reduceCtorEq, capsOf, cOf, look, get, lendCaps, lendAll, lend, lendCap, okRes, isAdr, capPV, List.map, List.any, List.append, mentOk, ments, Op.operands, loaded, Sh.plain, Fl.allfz, grab, upd, hit, V.put, unop, eqop, Fl.good, Fl.sound, Fl.l, Fl.r, Fl.el, fpath, Sh.zero, bound, Path.pre, below, skipPV, dif_pos, Nat.reduceBEq, vb_tt, vb_tf, vb_ft, vb_ff, List.getElem?_toArray, Call.operands, List.filterMap_nil, List.filterMap_cons, Nat.reduceAdd, List.contains_cons, Nat.reduceLT, Nat.reduceLeDiff, Nat.reduceSub, Nat.reduceEqDiff, Fl.wr, hitS, xback, lendX, vmix, pureOp, Fl.nofz, vio, vxgo, vmv, capOut, vs_a, vs_b, vs_c, vfloat, capBelow, Fl.unio, keepZ, nilP, moveTup, bq, tgs, List.getElem?_cons_succ, List.getElem?_cons_zero, Option.bind_some]
      rw [wrap64 (by omega) (by omega)]
      rfl
    · refine ⟨by kernel_rfl, by kernel_rfl, ?_⟩
      refine vcallD_of (has_vc l i (by omega)) ?_
      rw [show l.contains (i : Int) = false from g]
      simp only [Sh.size, fillRow, fillSt, noH, PV.isH, Fl.sub, PV.isEmp, List.replicate, Nat.reduceMul, emp1, headRow, rowOf, nilTest, V.take, V.drop, usesG, capUses, emp0, hdv, vops, vguard, vread, vdraw, vreadD, pop, ref, ev, cvalue, nonroot, PV.isRoot, setD, List.set, lenOf, binop, intop, reduceCtorEq, capsOf, cOf, look, get, lendCaps, lendAll, lend, lendCap, okRes, isAdr, capPV, List.map, List.any, List.append, mentOk, ments, Op.operands, loaded, Sh.plain, Fl.allfz, grab, upd, hit, V.put, unop, eqop, Fl.good, Fl.sound, Fl.l, Fl.r, Fl.el, fpath, Sh.zero, bound, Path.pre, below, skipPV, dif_pos, Nat.reduceBEq, vb_tt, vb_tf, vb_ft, vb_ff, List.getElem?_toArray, Call.operands, List.filterMap_nil, List.filterMap_cons, Nat.reduceAdd, List.contains_cons, Nat.reduceLT, Nat.reduceLeDiff, Nat.reduceSub, Nat.reduceEqDiff, Fl.wr, hitS, xback, lendX, vmix, pureOp, Fl.nofz, vio, vxgo, vmv, capOut, vs_a, vs_b, vs_c, vfloat, capBelow, Fl.unio, keepZ, nilP, moveTup, bq, tgs, List.getElem?_cons_succ, List.getElem?_cons_zero, Option.bind_some]
      have hxs : x.getD i 0 = s.getD i 0 := by rw [hxi, if_neg (by rw [show l.contains (i : Int) = false from g]; exact Bool.false_ne_true)]
      rw [hxs]
      refine ⟨by kernel_rfl, by kernel_rfl, hi1, by kernel_rfl, by kernel_rfl, by kernel_rfl, hi2, by kernel_rfl, ?_⟩
      refine hK _ ?_
      clear hK K
      try refine vthen_n ?_
      repeat refine VW.seq ?_
      refine VW.cond rfl (fun hc => ?_) (fun hc => ?_)
      · simp at hc
      refine VW.skip ?_
      show vthen _ _ _ .normal _
      refine vthen_n ?_
      repeat refine VW.seq ?_
      refine VW.regl hT fun K hK => ?_
      simp only [Sh.size, fillRow, fillSt, noH, PV.isH, Fl.sub, PV.isEmp, List.replicate, Nat.reduceMul, emp1, headRow, rowOf, nilTest, V.take, V.drop, usesG, capUses, emp0, hdv, vops, vguard, vread, vdraw, vreadD, pop, ref, ev, cvalue, nonroot, PV.isRoot, setD, List.set, lenOf, binop, intop, reduceCtorEq, capsOf, cOf, look, get, lendCaps, lendAll, lend, lendCap, okRes, isAdr, capPV, List.map, List.any, List.append, mentOk, ments, Op.operands, loaded, Sh.plain, Fl.allfz, grab, upd, hit, V.put, unop, eqop, Fl.good, Fl.sound, Fl.l, Fl.r, Fl.el, fpath, Sh.zero, bound, Path.pre, below, skipPV, dif_pos, Nat.reduceBEq, vb_tt, vb_tf, vb_ft, vb_ff, List.getElem?_toArray, Call.operands, List.filterMap_nil, List.filterMap_cons, Nat.reduceAdd, List.contains_cons, Nat.reduceLT, Nat.reduceLeDiff, Nat.reduceSub, Nat.reduceEqDiff, Fl.wr, hitS, xback, lendX, vmix, pureOp, Fl.nofz, vio, vxgo, vmv, capOut, vs_a, vs_b, vs_c, vfloat, capBelow, Fl.unio, keepZ, nilP, moveTup, bq, tgs, List.getElem?_cons_succ, List.getElem?_cons_zero, Option.bind_some]
      refine hK _ ?_
      clear hK K
      try refine vthen_n ?_
      refine ⟨i + 1, hlt, ?_, by show t.length - (i + 1) < t.length - i; omega⟩
      simp only [norm, homeOne, moveTo, keepS, keepGo, usesOut, List.foldl, ren, renC, Sh.size, fillRow, fillSt, noH, PV.isH, Fl.sub, PV.isEmp, List.replicate, Nat.reduceMul, emp1, headRow, rowOf, nilTest, V.take, V.drop, usesG, capUses, emp0, hdv, vops, vguard, vread, vdraw, vreadD, pop, ref, ev, cvalue, nonroot, PV.isRoot, setD, List.set, lenOf, binop, intop, reduceCtorEq, capsOf, cOf, look, get, lendCaps, lendAll, lend, lendCap, okRes, isAdr, capPV, List.map, List.any, List.append, mentOk, ments, Op.operands, loaded, Sh.plain, Fl.allfz, grab, upd, hit, V.put, unop, eqop, Fl.good, Fl.sound, Fl.l, Fl.r, Fl.el, fpath, Sh.zero, bound, Path.pre, below, skipPV, dif_pos, Nat.reduceBEq, vb_tt, vb_tf, vb_ft, vb_ff, List.getElem?_toArray, Call.operands, List.filterMap_nil, List.filterMap_cons, Nat.reduceAdd, List.contains_cons, Nat.reduceLT, Nat.reduceLeDiff, Nat.reduceSub, Nat.reduceEqDiff, Fl.wr, hitS, xback, lendX, vmix, pureOp, Fl.nofz, vio, vxgo, vmv, capOut, vs_a, vs_b, vs_c, vfloat, capBelow, Fl.unio, keepZ, nilP, moveTup, bq, tgs, List.getElem?_cons_succ, List.getElem?_cons_zero, Option.bind_some]
      rw [wrap64 (by omega) (by omega)]
      rfl
  · have hge : t.length ≤ i := by simpa using hc
    refine VW.exit ?_
    show vthen _ _ _ .normal _
    refine vthen_n ?_
    repeat refine VW.seq ?_
    refine VW.regl hT fun K hK => ?_
    simp only [Sh.size, fillRow, fillSt, noH, PV.isH, Fl.sub, PV.isEmp, List.replicate, Nat.reduceMul, emp1, headRow, rowOf, nilTest, V.take, V.drop, usesG, capUses, emp0, hdv, vops, vguard, vread, vdraw, vreadD, pop, ref, ev, cvalue, nonroot, PV.isRoot, setD, List.set, lenOf, binop, intop, reduceCtorEq, capsOf, cOf, look, get, lendCaps, lendAll, lend, lendCap, okRes, isAdr, capPV, List.map, List.any, List.append, mentOk, ments, Op.operands, loaded, Sh.plain, Fl.allfz, grab, upd, hit, V.put, unop, eqop, Fl.good, Fl.sound, Fl.l, Fl.r, Fl.el, fpath, Sh.zero, bound, Path.pre, below, skipPV, dif_pos, Nat.reduceBEq, vb_tt, vb_tf, vb_ft, vb_ff, List.getElem?_toArray, Call.operands, List.filterMap_nil, List.filterMap_cons, Nat.reduceAdd, List.contains_cons, Nat.reduceLT, Nat.reduceLeDiff, Nat.reduceSub, Nat.reduceEqDiff, Fl.wr, hitS, xback, lendX, vmix, pureOp, Fl.nofz, vio, vxgo, vmv, capOut, vs_a, vs_b, vs_c, vfloat, capBelow, Fl.unio, keepZ, nilP, moveTup, bq, tgs, List.getElem?_cons_succ, List.getElem?_cons_zero, Option.bind_some]
    refine vcall_ex (deepest_vc t s k (by omega) (by omega)) ?_
    rintro pv ⟨d, rfl, hd⟩
    have hdd := deepest_ok hso hkl hd
    simp only [Sh.size, fillRow, fillSt, noH, PV.isH, Fl.sub, PV.isEmp, List.replicate, Nat.reduceMul, emp1, headRow, rowOf, nilTest, V.take, V.drop, usesG, capUses, emp0, hdv, vops, vguard, vread, vdraw, vreadD, pop, ref, ev, cvalue, nonroot, PV.isRoot, setD, List.set, lenOf, binop, intop, reduceCtorEq, capsOf, cOf, look, get, lendCaps, lendAll, lend, lendCap, okRes, isAdr, capPV, List.map, List.any, List.append, mentOk, ments, Op.operands, loaded, Sh.plain, Fl.allfz, grab, upd, hit, V.put, unop, eqop, Fl.good, Fl.sound, Fl.l, Fl.r, Fl.el, fpath, Sh.zero, bound, Path.pre, below, skipPV, dif_pos, Nat.reduceBEq, vb_tt, vb_tf, vb_ft, vb_ff, List.getElem?_toArray, Call.operands, List.filterMap_nil, List.filterMap_cons, Nat.reduceAdd, List.contains_cons, Nat.reduceLT, Nat.reduceLeDiff, Nat.reduceSub, Nat.reduceEqDiff, Fl.wr, hitS, xback, lendX, vmix, pureOp, Fl.nofz, vio, vxgo, vmv, capOut, vs_a, vs_b, vs_c, vfloat, capBelow, Fl.unio, keepZ, nilP, moveTup, bq, tgs, List.getElem?_cons_succ, List.getElem?_cons_zero, Option.bind_some]
    refine hK _ ?_
    clear hK K
    try refine vthen_n ?_
    repeat refine VW.seq ?_
    refine VW.regl hT fun K hK => ?_
    simp only [Sh.size, fillRow, fillSt, noH, PV.isH, Fl.sub, PV.isEmp, List.replicate, Nat.reduceMul, emp1, headRow, rowOf, nilTest, V.take, V.drop, usesG, capUses, emp0, hdv, vops, vguard, vread, vdraw, vreadD, pop, ref, ev, cvalue, nonroot, PV.isRoot, setD, List.set, lenOf, binop, intop, reduceCtorEq, capsOf, cOf, look, get, lendCaps, lendAll, lend, lendCap, okRes, isAdr, capPV, List.map, List.any, List.append, mentOk, ments, Op.operands, loaded, Sh.plain, Fl.allfz, grab, upd, hit, V.put, unop, eqop, Fl.good, Fl.sound, Fl.l, Fl.r, Fl.el, fpath, Sh.zero, bound, Path.pre, below, skipPV, dif_pos, Nat.reduceBEq, vb_tt, vb_tf, vb_ft, vb_ff, List.getElem?_toArray, Call.operands, List.filterMap_nil, List.filterMap_cons, Nat.reduceAdd, List.contains_cons, Nat.reduceLT, Nat.reduceLeDiff, Nat.reduceSub, Nat.reduceEqDiff, Fl.wr, hitS, xback, lendX, vmix, pureOp, Fl.nofz, vio, vxgo, vmv, capOut, vs_a, vs_b, vs_c, vfloat, capBelow, Fl.unio, keepZ, nilP, moveTup, bq, tgs, List.getElem?_cons_succ, List.getElem?_cons_zero, Option.bind_some]
    refine vcall_of (setSleep_vc t s k d (by omega) (by omega)) ?_
    rw [hdd.2.1]
    simp only [Sh.size, fillRow, fillSt, noH, PV.isH, Fl.sub, PV.isEmp, List.replicate, Nat.reduceMul, emp1, headRow, rowOf, nilTest, V.take, V.drop, usesG, capUses, emp0, hdv, vops, vguard, vread, vdraw, vreadD, pop, ref, ev, cvalue, nonroot, PV.isRoot, setD, List.set, lenOf, binop, intop, reduceCtorEq, capsOf, cOf, look, get, lendCaps, lendAll, lend, lendCap, okRes, isAdr, capPV, List.map, List.any, List.append, mentOk, ments, Op.operands, loaded, Sh.plain, Fl.allfz, grab, upd, hit, V.put, unop, eqop, Fl.good, Fl.sound, Fl.l, Fl.r, Fl.el, fpath, Sh.zero, bound, Path.pre, below, skipPV, dif_pos, Nat.reduceBEq, vb_tt, vb_tf, vb_ft, vb_ff, List.getElem?_toArray, Call.operands, List.filterMap_nil, List.filterMap_cons, Nat.reduceAdd, List.contains_cons, Nat.reduceLT, Nat.reduceLeDiff, Nat.reduceSub, Nat.reduceEqDiff, Fl.wr, hitS, xback, lendX, vmix, pureOp, Fl.nofz, vio, vxgo, vmv, capOut, vs_a, vs_b, vs_c, vfloat, capBelow, Fl.unio, keepZ, nilP, moveTup, bq, tgs, List.getElem?_cons_succ, List.getElem?_cons_zero, Option.bind_some]
    refine hK _ ?_
    clear hK K
    try refine vthen_n ?_
    repeat refine VW.seq ?_
    refine VW.regl hT fun K hK => ?_
    simp only [Sh.size, fillRow, fillSt, noH, PV.isH, Fl.sub, PV.isEmp, List.replicate, Nat.reduceMul, emp1, headRow, rowOf, nilTest, V.take, V.drop, usesG, capUses, emp0, hdv, vops, vguard, vread, vdraw, vreadD, pop, ref, ev, cvalue, nonroot, PV.isRoot, setD, List.set, lenOf, binop, intop, reduceCtorEq, capsOf, cOf, look, get, lendCaps, lendAll, lend, lendCap, okRes, isAdr, capPV, List.map, List.any, List.append, mentOk, ments, Op.operands, loaded, Sh.plain, Fl.allfz, grab, upd, hit, V.put, unop, eqop, Fl.good, Fl.sound, Fl.l, Fl.r, Fl.el, fpath, Sh.zero, bound, Path.pre, below, skipPV, dif_pos, Nat.reduceBEq, vb_tt, vb_tf, vb_ft, vb_ff, List.getElem?_toArray, Call.operands, List.filterMap_nil, List.filterMap_cons, Nat.reduceAdd, List.contains_cons, Nat.reduceLT, Nat.reduceLeDiff, Nat.reduceSub, Nat.reduceEqDiff, Fl.wr, hitS, xback, lendX, vmix, pureOp, Fl.nofz, vio, vxgo, vmv, capOut, vs_a, vs_b, vs_c, vfloat, capBelow, Fl.unio, keepZ, nilP, moveTup, bq, tgs, List.getElem?_cons_succ, List.getElem?_cons_zero, Option.bind_some]
    rw [wrap64 (by omega) (by omega)]
    refine vcall_of (setSleep_vc t s k (d + 1) (by omega) (by omega)) ?_
    rw [hdd.2.2.1]
    simp only [Sh.size, fillRow, fillSt, noH, PV.isH, Fl.sub, PV.isEmp, List.replicate, Nat.reduceMul, emp1, headRow, rowOf, nilTest, V.take, V.drop, usesG, capUses, emp0, hdv, vops, vguard, vread, vdraw, vreadD, pop, ref, ev, cvalue, nonroot, PV.isRoot, setD, List.set, lenOf, binop, intop, reduceCtorEq, capsOf, cOf, look, get, lendCaps, lendAll, lend, lendCap, okRes, isAdr, capPV, List.map, List.any, List.append, mentOk, ments, Op.operands, loaded, Sh.plain, Fl.allfz, grab, upd, hit, V.put, unop, eqop, Fl.good, Fl.sound, Fl.l, Fl.r, Fl.el, fpath, Sh.zero, bound, Path.pre, below, skipPV, dif_pos, Nat.reduceBEq, vb_tt, vb_tf, vb_ft, vb_ff, List.getElem?_toArray, Call.operands, List.filterMap_nil, List.filterMap_cons, Nat.reduceAdd, List.contains_cons, Nat.reduceLT, Nat.reduceLeDiff, Nat.reduceSub, Nat.reduceEqDiff, Fl.wr, hitS, xback, lendX, vmix, pureOp, Fl.nofz, vio, vxgo, vmv, capOut, vs_a, vs_b, vs_c, vfloat, capBelow, Fl.unio, keepZ, nilP, moveTup, bq, tgs, List.getElem?_cons_succ, List.getElem?_cons_zero, Option.bind_some]
    refine hK _ ?_
    clear hK K
    try refine vthen_n ?_
    repeat refine VW.seq ?_
    refine VW.regl hT fun K hK => ?_
    simp only [Sh.size, fillRow, fillSt, noH, PV.isH, Fl.sub, PV.isEmp, List.replicate, Nat.reduceMul, emp1, headRow, rowOf, nilTest, V.take, V.drop, usesG, capUses, emp0, hdv, vops, vguard, vread, vdraw, vreadD, pop, ref, ev, cvalue, nonroot, PV.isRoot, setD, List.set, lenOf, binop, intop, reduceCtorEq, capsOf, cOf, look, get, lendCaps, lendAll, lend, lendCap, okRes, isAdr, capPV, List.map, List.any, List.append, mentOk, ments, Op.operands, loaded, Sh.plain, Fl.allfz, grab, upd, hit, V.put, unop, eqop, Fl.good, Fl.sound, Fl.l, Fl.r, Fl.el, fpath, Sh.zero, bound, Path.pre, below, skipPV, dif_pos, Nat.reduceBEq, vb_tt, vb_tf, vb_ft, vb_ff, List.getElem?_toArray, Call.operands, List.filterMap_nil, List.filterMap_cons, Nat.reduceAdd, List.contains_cons, Nat.reduceLT, Nat.reduceLeDiff, Nat.reduceSub, Nat.reduceEqDiff, Fl.wr, hitS, xback, lendX, vmix, pureOp, Fl.nofz, vio, vxgo, vmv, capOut, vs_a, vs_b, vs_c, vfloat, capBelow, Fl.unio, keepZ, nilP, moveTup, bq, tgs, List.getElem?_cons_succ, List.getElem?_cons_zero, Option.bind_some]
    refine ⟨decide_eq_true ⟨Int.natCast_nonneg _, by show (k : Int) < (s.length : Int); omega⟩, ?_⟩
    rw [show decide (d ≥ s.getD k 0) = true from decide_eq_true hdd.1]
    simp only [Sh.size, fillRow, fillSt, noH, PV.isH, Fl.sub, PV.isEmp, List.replicate, Nat.reduceMul, emp1, headRow, rowOf, nilTest, V.take, V.drop, usesG, capUses, emp0, hdv, vops, vguard, vread, vdraw, vreadD, pop, ref, ev, cvalue, nonroot, PV.isRoot, setD, List.set, lenOf, binop, intop, reduceCtorEq, capsOf, cOf, look, get, lendCaps, lendAll, lend, lendCap, okRes, isAdr, capPV, List.map, List.any, List.append, mentOk, ments, Op.operands, loaded, Sh.plain, Fl.allfz, grab, upd, hit, V.put, unop, eqop, Fl.good, Fl.sound, Fl.l, Fl.r, Fl.el, fpath, Sh.zero, bound, Path.pre, below, skipPV, dif_pos, Nat.reduceBEq, vb_tt, vb_tf, vb_ft, vb_ff, List.getElem?_toArray, Call.operands, List.filterMap_nil, List.filterMap_cons, Nat.reduceAdd, List.contains_cons, Nat.reduceLT, Nat.reduceLeDiff, Nat.reduceSub, Nat.reduceEqDiff, Fl.wr, hitS, xback, lendX, vmix, pureOp, Fl.nofz, vio, vxgo, vmv, capOut, vs_a, vs_b, vs_c, vfloat, capBelow, Fl.unio, keepZ, nilP, moveTup, bq, tgs, List.getElem?_cons_succ, List.getElem?_cons_zero, Option.bind_some]
    have hys : sleepOk t (s.set k d) = true := by
      have := hdd.2.1
      simp only [setOk, Bool.and_eq_true] at this
      exact this.2.2
    refine vcall_of (sleepOk_vc t _ (by omega) (by rw [List.length_set]; omega)) ?_
    rw [hys]
    simp only [Sh.size, fillRow, fillSt, noH, PV.isH, Fl.sub, PV.isEmp, List.replicate, Nat.reduceMul, emp1, headRow, rowOf, nilTest, V.take, V.drop, usesG, capUses, emp0, hdv, vops, vguard, vread, vdraw, vreadD, pop, ref, ev, cvalue, nonroot, PV.isRoot, setD, List.set, lenOf, binop, intop, reduceCtorEq, capsOf, cOf, look, get, lendCaps, lendAll, lend, lendCap, okRes, isAdr, capPV, List.map, List.any, List.append, mentOk, ments, Op.operands, loaded, Sh.plain, Fl.allfz, grab, upd, hit, V.put, unop, eqop, Fl.good, Fl.sound, Fl.l, Fl.r, Fl.el, fpath, Sh.zero, bound, Path.pre, below, skipPV, dif_pos, Nat.reduceBEq, vb_tt, vb_tf, vb_ft, vb_ff, List.getElem?_toArray, Call.operands, List.filterMap_nil, List.filterMap_cons, Nat.reduceAdd, List.contains_cons, Nat.reduceLT, Nat.reduceLeDiff, Nat.reduceSub, Nat.reduceEqDiff, Fl.wr, hitS, xback, lendX, vmix, pureOp, Fl.nofz, vio, vxgo, vmv, capOut, vs_a, vs_b, vs_c, vfloat, capBelow, Fl.unio, keepZ, nilP, moveTup, bq, tgs, List.getElem?_cons_succ, List.getElem?_cons_zero, Option.bind_some]
    refine hK _ ?_
    clear hK K
    try refine vthen_n ?_
    exact VW.ret ⟨.inl rfl, _, rfl, rfl⟩
end Go.Proofs.Yteeklekfafedcaa.V.W
namespace Go.Proofs.Yteeklekfafedcaa.V
open Go Go.RowKit
theorem fnWakes_vc (b : List Int) (h0 : wfS Try.prog (.sl 5 (.int .u8)) b) : VC Try.prog 11 [.v false (.sl 5 (.int .u8)) b] (· = .v false .bool true) := W.wakes_vc b
end Go.Proofs.Yteeklekfafedcaa.V

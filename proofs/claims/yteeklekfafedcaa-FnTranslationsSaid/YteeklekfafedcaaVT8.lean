import Derived.Test.YteeklekfafedcaaVT7
set_option linter.unusedVariables false
set_option linter.unnecessarySimpa false
set_option linter.unusedSimpArgs false
namespace Go.Proofs.Yteeklekfafedcaa.V
open Go Go.RowKit
def cl2 (b : Int) (x y : PG) : Bool := y.1 == b && y.2.2.1 == x.2.2.1
def cl1 (xs : List PG) (a b : Int) (x : PG) : Bool := x.1 == a && xs.any (cl2 b x)
def isol (xs : List PG) (a b : Int) : Bool := gOk xs && !xs.any (cl1 xs a b)
set_option maxRecDepth 20000 in
theorem vc68 (y : PG) (b : Int) (x : PG) : VC Try.prog 68 [.v true sPG y, .fadr (.int .i64) b, .fadr sPG x] (· = .v false .bool (cl2 b x y)) := by
  refine VC.of_body hT Try.func68 rfl (by kernel_rfl) [(.tmp 4, false, .bool)] (by kernel_rfl) ?_
  show VW _ _ ([.v true sPG y, .fadr (.int .i64) b, .fadr sPG x, D, D, D, D, D, D, D, D, D, D, D, D, D]) _
  repeat refine VW.seq ?_
  refine VW.regl hT fun K hK => ?_
  simp only [Sh.size, fillRow, fillSt, noH, PV.isH, Fl.sub, PV.isEmp, List.replicate, Nat.reduceMul, emp1, headRow, rowOf, nilTest, V.take, V.drop, usesG, capUses, emp0, hdv, vops, vguard, vread, vdraw, vreadD, pop, ref, ev, cvalue, nonroot, PV.isRoot, setD, List.set, lenOf, binop, intop, reduceCtorEq, capsOf, cOf, look, get, lendCaps, lendAll, lend, lendCap, okRes, isAdr, capPV, List.map, List.any, List.append, mentOk, ments, Op.operands, loaded, Sh.plain, Fl.allfz, grab, upd, hit, V.put, unop, eqop, Fl.good, Fl.sound, Fl.l, Fl.r, Fl.el, fpath, Sh.zero, bound, Path.pre, below, skipPV, dif_pos, Nat.reduceBEq, vb_tt, vb_tf, vb_ft, vb_ff, List.getElem?_toArray, Call.operands, List.filterMap_nil, List.filterMap_cons, Nat.reduceAdd, List.contains_cons, Nat.reduceLT, Nat.reduceLeDiff, Nat.reduceSub, Nat.reduceEqDiff, Fl.wr, hitS, xback, lendX, vmix, pureOp, Fl.nofz, vio, vxgo, vmv, capOut, vs_a, vs_b, vs_c, vfloat, capBelow, Fl.unio, keepZ, nilP, moveTup, bq, tgs, List.getElem?_cons_succ, List.getElem?_cons_zero, Option.bind_some]
  refine hK _ ?_
  clear hK K
  try refine vthen_n ?_
  repeat refine VW.seq ?_
  refine VW.regl hT fun K hK => ?_
  simp only [Sh.size, fillRow, fillSt, noH, PV.isH, Fl.sub, PV.isEmp, List.replicate, Nat.reduceMul, emp1, headRow, rowOf, nilTest, V.take, V.drop, usesG, capUses, emp0, hdv, vops, vguard, vread, vdraw, vreadD, pop, ref, ev, cvalue, nonroot, PV.isRoot, setD, List.set, lenOf, binop, intop, reduceCtorEq, capsOf, cOf, look, get, lendCaps, lendAll, lend, lendCap, okRes, isAdr, capPV, List.map, List.any, List.append, mentOk, ments, Op.operands, loaded, Sh.plain, Fl.allfz, grab, upd, hit, V.put, unop, eqop, Fl.good, Fl.sound, Fl.l, Fl.r, Fl.el, fpath, Sh.zero, bound, Path.pre, below, skipPV, dif_pos, Nat.reduceBEq, vb_tt, vb_tf, vb_ft, vb_ff, List.getElem?_toArray, Call.operands, List.filterMap_nil, List.filterMap_cons, Nat.reduceAdd, List.contains_cons, Nat.reduceLT, Nat.reduceLeDiff, Nat.reduceSub, Nat.reduceEqDiff, Fl.wr, hitS, xback, lendX, vmix, pureOp, Fl.nofz, vio, vxgo, vmv, capOut, vs_a, vs_b, vs_c, vfloat, capBelow, Fl.unio, keepZ, nilP, moveTup, bq, tgs, List.getElem?_cons_succ, List.getElem?_cons_zero, Option.bind_some]
  refine vbr (fun h => ?_) (fun h => ?_) <;> simp only [Sh.size, fillRow, fillSt, noH, PV.isH, Fl.sub, PV.isEmp, List.replicate, Nat.reduceMul, emp1, headRow, rowOf, nilTest, V.take, V.drop, usesG, capUses, emp0, hdv, vops, vguard, vread, vdraw, vreadD, pop, ref, ev, cvalue, nonroot, PV.isRoot, setD, List.set, lenOf, binop, intop, reduceCtorEq, capsOf, cOf, look, get, lendCaps, lendAll, lend, lendCap, okRes, isAdr, capPV, List.map, List.any, List.append, mentOk, ments, Op.operands, loaded, Sh.plain, Fl.allfz, grab, upd, hit, V.put, unop, eqop, Fl.good, Fl.sound, Fl.l, Fl.r, Fl.el, fpath, Sh.zero, bound, Path.pre, below, skipPV, dif_pos, Nat.reduceBEq, vb_tt, vb_tf, vb_ft, vb_ff, List.getElem?_toArray, Call.operands, List.filterMap_nil, List.filterMap_cons, Nat.reduceAdd, List.contains_cons, Nat.reduceLT, Nat.reduceLeDiff, Nat.reduceSub, Nat.reduceEqDiff, Fl.wr, hitS, xback, lendX, vmix, pureOp, Fl.nofz, vio, vxgo, vmv, capOut, vs_a, vs_b, vs_c, vfloat, capBelow, Fl.unio, keepZ, nilP, moveTup, bq, tgs, List.getElem?_cons_succ, List.getElem?_cons_zero, Option.bind_some]
  · refine hK _ ?_
    clear hK K
    try refine vthen_n ?_
    refine VW.ret ⟨.inl rfl, _, rfl, ?_⟩
    simp only [cl2, h, Bool.true_and]
  · refine hK _ ?_
    clear hK K
    try refine vthen_n ?_
    refine VW.ret ⟨.inl rfl, _, rfl, ?_⟩
    simp only [cl2, h, Bool.not_true, Bool.false_and]
set_option maxRecDepth 20000 in
theorem vc67 (x : PG) (a : Int) (xs : List PG) (b : Int) (hl : xs.length * 32 ≤ 140737488351232) : VC Try.prog 67 [.v true sPG x, .fadr (.int .i64) a, .fadr sPGS xs, .fadr (.int .i64) b] (· = .v false .bool (cl1 xs a b x)) := by
  refine VC.of_body hT Try.func67 rfl (by kernel_rfl) [(.tmp 5, false, .bool)] (by kernel_rfl) ?_
  show VW _ _ ([.v true sPG x, .fadr (.int .i64) a, .fadr sPGS xs, .fadr (.int .i64) b, D, D, D, D, D, D, D, D, D, D, D]) _
  repeat refine VW.seq ?_
  refine VW.regl hT fun K hK => ?_
  simp only [Sh.size, fillRow, fillSt, noH, PV.isH, Fl.sub, PV.isEmp, List.replicate, Nat.reduceMul, emp1, headRow, rowOf, nilTest, V.take, V.drop, usesG, capUses, emp0, hdv, vops, vguard, vread, vdraw, vreadD, pop, ref, ev, cvalue, nonroot, PV.isRoot, setD, List.set, lenOf, binop, intop, reduceCtorEq, capsOf, cOf, look, get, lendCaps, lendAll, lend, lendCap, okRes, isAdr, capPV, List.map, List.any, List.append, mentOk, ments, Op.operands, loaded, Sh.plain, Fl.allfz, grab, upd, hit, V.put, unop, eqop, Fl.good, Fl.sound, Fl.l, Fl.r, Fl.el, fpath, Sh.zero, bound, Path.pre, below, skipPV, dif_pos, Nat.reduceBEq, vb_tt, vb_tf, vb_ft, vb_ff, List.getElem?_toArray, Call.operands, List.filterMap_nil, List.filterMap_cons, Nat.reduceAdd, List.contains_cons, Nat.reduceLT, Nat.reduceLeDiff, Nat.reduceSub, Nat.reduceEqDiff, Fl.wr, hitS, xback, lendX, vmix, pureOp, Fl.nofz, vio, vxgo, vmv, capOut, vs_a, vs_b, vs_c, vfloat, capBelow, Fl.unio, keepZ, nilP, moveTup, bq, tgs, List.getElem?_cons_succ, List.getElem?_cons_zero, Option.bind_some]
  refine hK _ ?_
  clear hK K
  try refine vthen_n ?_
  repeat refine VW.seq ?_
  refine VW.regl hT fun K hK => ?_
  simp only [Sh.size, fillRow, fillSt, noH, PV.isH, Fl.sub, PV.isEmp, List.replicate, Nat.reduceMul, emp1, headRow, rowOf, nilTest, V.take, V.drop, usesG, capUses, emp0, hdv, vops, vguard, vread, vdraw, vreadD, pop, ref, ev, cvalue, nonroot, PV.isRoot, setD, List.set, lenOf, binop, intop, reduceCtorEq, capsOf, cOf, look, get, lendCaps, lendAll, lend, lendCap, okRes, isAdr, capPV, List.map, List.any, List.append, mentOk, ments, Op.operands, loaded, Sh.plain, Fl.allfz, grab, upd, hit, V.put, unop, eqop, Fl.good, Fl.sound, Fl.l, Fl.r, Fl.el, fpath, Sh.zero, bound, Path.pre, below, skipPV, dif_pos, Nat.reduceBEq, vb_tt, vb_tf, vb_ft, vb_ff, List.getElem?_toArray, Call.operands, List.filterMap_nil, List.filterMap_cons, Nat.reduceAdd, List.contains_cons, Nat.reduceLT, Nat.reduceLeDiff, Nat.reduceSub, Nat.reduceEqDiff, Fl.wr, hitS, xback, lendX, vmix, pureOp, Fl.nofz, vio, vxgo, vmv, capOut, vs_a, vs_b, vs_c, vfloat, capBelow, Fl.unio, keepZ, nilP, moveTup, bq, tgs, List.getElem?_cons_succ, List.getElem?_cons_zero, Option.bind_some]
  refine vbr (fun h => ?_) (fun h => ?_) <;> simp only [Sh.size, fillRow, fillSt, noH, PV.isH, Fl.sub, PV.isEmp, List.replicate, Nat.reduceMul, emp1, headRow, rowOf, nilTest, V.take, V.drop, usesG, capUses, emp0, hdv, vops, vguard, vread, vdraw, vreadD, pop, ref, ev, cvalue, nonroot, PV.isRoot, setD, List.set, lenOf, binop, intop, reduceCtorEq, capsOf, cOf, look, get, lendCaps, lendAll, lend, lendCap, okRes, isAdr, capPV, List.map, List.any, List.append, mentOk, ments, Op.operands, loaded, Sh.plain, Fl.allfz, grab, upd, hit, V.put, unop, eqop, Fl.good, Fl.sound, Fl.l, Fl.r, Fl.el, fpath, Sh.zero, bound, Path.pre, below, skipPV, dif_pos, Nat.reduceBEq, vb_tt, vb_tf, vb_ft, vb_ff, List.getElem?_toArray, Call.operands, List.filterMap_nil, List.filterMap_cons, Nat.reduceAdd, List.contains_cons, Nat.reduceLT, Nat.reduceLeDiff, Nat.reduceSub, Nat.reduceEqDiff, Fl.wr, hitS, xback, lendX, vmix, pureOp, Fl.nofz, vio, vxgo, vmv, capOut, vs_a, vs_b, vs_c, vfloat, capBelow, Fl.unio, keepZ, nilP, moveTup, bq, tgs, List.getElem?_cons_succ, List.getElem?_cons_zero, Option.bind_some]
  · refine vcall_of (vc66 xs 68 [.fadr (.int .i64) b, .fadr sPG x] (cl2 b x) rfl (fun y => vc68 y b x) hl) ?_
    simp only [Sh.size, fillRow, fillSt, noH, PV.isH, Fl.sub, PV.isEmp, List.replicate, Nat.reduceMul, emp1, headRow, rowOf, nilTest, V.take, V.drop, usesG, capUses, emp0, hdv, vops, vguard, vread, vdraw, vreadD, pop, ref, ev, cvalue, nonroot, PV.isRoot, setD, List.set, lenOf, binop, intop, reduceCtorEq, capsOf, cOf, look, get, lendCaps, lendAll, lend, lendCap, okRes, isAdr, capPV, List.map, List.any, List.append, mentOk, ments, Op.operands, loaded, Sh.plain, Fl.allfz, grab, upd, hit, V.put, unop, eqop, Fl.good, Fl.sound, Fl.l, Fl.r, Fl.el, fpath, Sh.zero, bound, Path.pre, below, skipPV, dif_pos, Nat.reduceBEq, vb_tt, vb_tf, vb_ft, vb_ff, List.getElem?_toArray, Call.operands, List.filterMap_nil, List.filterMap_cons, Nat.reduceAdd, List.contains_cons, Nat.reduceLT, Nat.reduceLeDiff, Nat.reduceSub, Nat.reduceEqDiff, Fl.wr, hitS, xback, lendX, vmix, pureOp, Fl.nofz, vio, vxgo, vmv, capOut, vs_a, vs_b, vs_c, vfloat, capBelow, Fl.unio, keepZ, nilP, moveTup, bq, tgs, List.getElem?_cons_succ, List.getElem?_cons_zero, Option.bind_some]
    refine hK _ ?_
    clear hK K
    try refine vthen_n ?_
    refine VW.ret ⟨.inl rfl, _, rfl, ?_⟩
    simp only [cl1, h, Bool.true_and]
  · refine hK _ ?_
    clear hK K
    try refine vthen_n ?_
    refine VW.ret ⟨.inl rfl, _, rfl, ?_⟩
    simp only [cl1, h, Bool.not_true, Bool.false_and]
set_option maxRecDepth 20000 in
theorem vc16 (xs : List PG) (a b : Int) (hl : xs.length * 32 ≤ 140737488351232) : VC Try.prog 16 [.v false sPGS xs, .v false (.int .i64) a, .v false (.int .i64) b] (· = .v false .bool (isol xs a b)) := by
  refine VC.of_body hT Try.func16 rfl (by kernel_rfl) [(.tmp 6, false, .bool)] (by kernel_rfl) ?_
  show VW _ _ ([.v false sPGS xs, .v false (.int .i64) a, .v false (.int .i64) b, D, D, D, D, D, D, D, D, D, D, D, D]) _
  repeat refine VW.seq ?_
  refine VW.regl hT fun K hK => ?_
  simp only [Sh.size, fillRow, fillSt, noH, PV.isH, Fl.sub, PV.isEmp, List.replicate, Nat.reduceMul, emp1, headRow, rowOf, nilTest, V.take, V.drop, usesG, capUses, emp0, hdv, vops, vguard, vread, vdraw, vreadD, pop, ref, ev, cvalue, nonroot, PV.isRoot, setD, List.set, lenOf, binop, intop, reduceCtorEq, capsOf, cOf, look, get, lendCaps, lendAll, lend, lendCap, okRes, isAdr, capPV, List.map, List.any, List.append, mentOk, ments, Op.operands, loaded, Sh.plain, Fl.allfz, grab, upd, hit, V.put, unop, eqop, Fl.good, Fl.sound, Fl.l, Fl.r, Fl.el, fpath, Sh.zero, bound, Path.pre, below, skipPV, dif_pos, Nat.reduceBEq, vb_tt, vb_tf, vb_ft, vb_ff, List.getElem?_toArray, Call.operands, List.filterMap_nil, List.filterMap_cons, Nat.reduceAdd, List.contains_cons, Nat.reduceLT, Nat.reduceLeDiff, Nat.reduceSub, Nat.reduceEqDiff, Fl.wr, hitS, xback, lendX, vmix, pureOp, Fl.nofz, vio, vxgo, vmv, capOut, vs_a, vs_b, vs_c, vfloat, capBelow, Fl.unio, keepZ, nilP, moveTup, bq, tgs, List.getElem?_cons_succ, List.getElem?_cons_zero, Option.bind_some]
  refine hK _ ?_
  clear hK K
  try refine vthen_n ?_
  repeat refine VW.seq ?_
  refine VW.regl hT fun K hK => ?_
  simp only [Sh.size, fillRow, fillSt, noH, PV.isH, Fl.sub, PV.isEmp, List.replicate, Nat.reduceMul, emp1, headRow, rowOf, nilTest, V.take, V.drop, usesG, capUses, emp0, hdv, vops, vguard, vread, vdraw, vreadD, pop, ref, ev, cvalue, nonroot, PV.isRoot, setD, List.set, lenOf, binop, intop, reduceCtorEq, capsOf, cOf, look, get, lendCaps, lendAll, lend, lendCap, okRes, isAdr, capPV, List.map, List.any, List.append, mentOk, ments, Op.operands, loaded, Sh.plain, Fl.allfz, grab, upd, hit, V.put, unop, eqop, Fl.good, Fl.sound, Fl.l, Fl.r, Fl.el, fpath, Sh.zero, bound, Path.pre, below, skipPV, dif_pos, Nat.reduceBEq, vb_tt, vb_tf, vb_ft, vb_ff, List.getElem?_toArray, Call.operands, List.filterMap_nil, List.filterMap_cons, Nat.reduceAdd, List.contains_cons, Nat.reduceLT, Nat.reduceLeDiff, Nat.reduceSub, Nat.reduceEqDiff, Fl.wr, hitS, xback, lendX, vmix, pureOp, Fl.nofz, vio, vxgo, vmv, capOut, vs_a, vs_b, vs_c, vfloat, capBelow, Fl.unio, keepZ, nilP, moveTup, bq, tgs, List.getElem?_cons_succ, List.getElem?_cons_zero, Option.bind_some]
  refine vcall_of (vc47 xs hl) ?_
  simp only [Sh.size, fillRow, fillSt, noH, PV.isH, Fl.sub, PV.isEmp, List.replicate, Nat.reduceMul, emp1, headRow, rowOf, nilTest, V.take, V.drop, usesG, capUses, emp0, hdv, vops, vguard, vread, vdraw, vreadD, pop, ref, ev, cvalue, nonroot, PV.isRoot, setD, List.set, lenOf, binop, intop, reduceCtorEq, capsOf, cOf, look, get, lendCaps, lendAll, lend, lendCap, okRes, isAdr, capPV, List.map, List.any, List.append, mentOk, ments, Op.operands, loaded, Sh.plain, Fl.allfz, grab, upd, hit, V.put, unop, eqop, Fl.good, Fl.sound, Fl.l, Fl.r, Fl.el, fpath, Sh.zero, bound, Path.pre, below, skipPV, dif_pos, Nat.reduceBEq, vb_tt, vb_tf, vb_ft, vb_ff, List.getElem?_toArray, Call.operands, List.filterMap_nil, List.filterMap_cons, Nat.reduceAdd, List.contains_cons, Nat.reduceLT, Nat.reduceLeDiff, Nat.reduceSub, Nat.reduceEqDiff, Fl.wr, hitS, xback, lendX, vmix, pureOp, Fl.nofz, vio, vxgo, vmv, capOut, vs_a, vs_b, vs_c, vfloat, capBelow, Fl.unio, keepZ, nilP, moveTup, bq, tgs, List.getElem?_cons_succ, List.getElem?_cons_zero, Option.bind_some]
  refine vbr (fun h => ?_) (fun h => ?_) <;> simp only [Sh.size, fillRow, fillSt, noH, PV.isH, Fl.sub, PV.isEmp, List.replicate, Nat.reduceMul, emp1, headRow, rowOf, nilTest, V.take, V.drop, usesG, capUses, emp0, hdv, vops, vguard, vread, vdraw, vreadD, pop, ref, ev, cvalue, nonroot, PV.isRoot, setD, List.set, lenOf, binop, intop, reduceCtorEq, capsOf, cOf, look, get, lendCaps, lendAll, lend, lendCap, okRes, isAdr, capPV, List.map, List.any, List.append, mentOk, ments, Op.operands, loaded, Sh.plain, Fl.allfz, grab, upd, hit, V.put, unop, eqop, Fl.good, Fl.sound, Fl.l, Fl.r, Fl.el, fpath, Sh.zero, bound, Path.pre, below, skipPV, dif_pos, Nat.reduceBEq, vb_tt, vb_tf, vb_ft, vb_ff, List.getElem?_toArray, Call.operands, List.filterMap_nil, List.filterMap_cons, Nat.reduceAdd, List.contains_cons, Nat.reduceLT, Nat.reduceLeDiff, Nat.reduceSub, Nat.reduceEqDiff, Fl.wr, hitS, xback, lendX, vmix, pureOp, Fl.nofz, vio, vxgo, vmv, capOut, vs_a, vs_b, vs_c, vfloat, capBelow, Fl.unio, keepZ, nilP, moveTup, bq, tgs, List.getElem?_cons_succ, List.getElem?_cons_zero, Option.bind_some]
  · refine vcall_of (vc66 xs 67 [.fadr (.int .i64) a, .fadr sPGS xs, .fadr (.int .i64) b] (cl1 xs a b) rfl (fun y => vc67 y a xs b hl) hl) ?_
    simp only [Sh.size, fillRow, fillSt, noH, PV.isH, Fl.sub, PV.isEmp, List.replicate, Nat.reduceMul, emp1, headRow, rowOf, nilTest, V.take, V.drop, usesG, capUses, emp0, hdv, vops, vguard, vread, vdraw, vreadD, pop, ref, ev, cvalue, nonroot, PV.isRoot, setD, List.set, lenOf, binop, intop, reduceCtorEq, capsOf, cOf, look, get, lendCaps, lendAll, lend, lendCap, okRes, isAdr, capPV, List.map, List.any, List.append, mentOk, ments, Op.operands, loaded, Sh.plain, Fl.allfz, grab, upd, hit, V.put, unop, eqop, Fl.good, Fl.sound, Fl.l, Fl.r, Fl.el, fpath, Sh.zero, bound, Path.pre, below, skipPV, dif_pos, Nat.reduceBEq, vb_tt, vb_tf, vb_ft, vb_ff, List.getElem?_toArray, Call.operands, List.filterMap_nil, List.filterMap_cons, Nat.reduceAdd, List.contains_cons, Nat.reduceLT, Nat.reduceLeDiff, Nat.reduceSub, Nat.reduceEqDiff, Fl.wr, hitS, xback, lendX, vmix, pureOp, Fl.nofz, vio, vxgo, vmv, capOut, vs_a, vs_b, vs_c, vfloat, capBelow, Fl.unio, keepZ, nilP, moveTup, bq, tgs, List.getElem?_cons_succ, List.getElem?_cons_zero, Option.bind_some]
    refine hK _ ?_
    clear hK K
    try refine vthen_n ?_
    refine VW.ret ⟨.inl rfl, _, rfl, ?_⟩
    simp only [isol, h, Bool.true_and]
  · refine hK _ ?_
    clear hK K
    try refine vthen_n ?_
    refine VW.ret ⟨.inl rfl, _, rfl, ?_⟩
    simp only [isol, h, Bool.not_true, Bool.false_and]
end Go.Proofs.Yteeklekfafedcaa.V

/- impl.Translate walked. No condition. -/
import Derived.Test.YteeklekfafedcaaX1
set_option linter.unusedVariables false
set_option linter.unnecessarySimpa false
set_option linter.unnecessarySimpa false
set_option linter.unusedSimpArgs false
namespace Go.Proofs.Yteeklekfafedcaa.V.X
open Go Go.RowKit
/-- the grant of a page -/
def mine (id pg : Int) (x : PG) : Bool := x.1 == id && x.2.1 == pg
theorem tr1_vc (x : PG) (id a : Int) (ha : 0 ≤ a) (ha2 : a ≤ 65535) : VC Try.prog 104 [.v true sPG x, .fadr (.int .i64) id, .fadr (.int .i64) a] (· = .v false .bool (mine id (Int.tdiv a 256) x)) := by
  refine VC.of_body hT Try.func104 rfl (by kernel_rfl) [(.tmp 4, false, .bool)] (by kernel_rfl) ?_
  show VW _ _ ([.v true sPG x, .fadr (.int .i64) id, .fadr (.int .i64) a, D, D, D, D, D, D, D, D, D, D, D, D, D]) _
  repeat refine VW.seq ?_
  refine VW.regl hT fun K hK => ?_
  simp only [Sh.size, fillRow, fillSt, noH, PV.isH, Fl.sub, PV.isEmp, List.replicate, Nat.reduceMul, emp1, headRow, rowOf, nilTest, V.take, V.drop, usesG, capUses, emp0, hdv, vops, vguard, vread, vdraw, vreadD, pop, ref, ev, cvalue, nonroot, PV.isRoot, setD, List.set, lenOf, binop, intop, reduceCtorEq, capsOf, cOf, look, get, lendCaps, lendAll, lend, lendCap, okRes, isAdr, capPV, List.map, List.any, List.append, mentOk, ments, Op.operands, loaded, Sh.plain, Fl.allfz, grab, upd, hit, V.put, unop, eqop, Fl.good, Fl.sound, Fl.l, Fl.r, Fl.el, fpath, Sh.zero, bound, Path.pre, below, skipPV, dif_pos, Nat.reduceBEq, vb_tt, vb_tf, vb_ft, vb_ff, List.getElem?_toArray, Call.operands, List.filterMap_nil, List.filterMap_cons, Nat.reduceAdd, List.contains_cons, Nat.reduceLT, Nat.reduceLeDiff, Nat.reduceSub, Nat.reduceEqDiff, Fl.wr, hitS, xback, lendX, vmix, pureOp, Fl.nofz, vio, vxgo, vmv, capOut, vs_a, vs_b, vs_c, vfloat, capBelow, Fl.unio, keepZ, nilP, moveTup, bq, tgs, List.getElem?_cons_succ, List.getElem?_cons_zero, Option.bind_some]
  refine hK _ ?_
  clear hK K
  try refine vthen_n ?_
  repeat refine VW.seq ?_
  refine VW.regl hT fun K hK => ?_
  simp only [Sh.size, fillRow, fillSt, noH, PV.isH, Fl.sub, PV.isEmp, List.replicate, Nat.reduceMul, emp1, headRow, rowOf, nilTest, V.take, V.drop, usesG, capUses, emp0, hdv, vops, vguard, vread, vdraw, vreadD, pop, ref, ev, cvalue, nonroot, PV.isRoot, setD, List.set, lenOf, binop, intop, reduceCtorEq, capsOf, cOf, look, get, lendCaps, lendAll, lend, lendCap, okRes, isAdr, capPV, List.map, List.any, List.append, mentOk, ments, Op.operands, loaded, Sh.plain, Fl.allfz, grab, upd, hit, V.put, unop, eqop, Fl.good, Fl.sound, Fl.l, Fl.r, Fl.el, fpath, Sh.zero, bound, Path.pre, below, skipPV, dif_pos, Nat.reduceBEq, vb_tt, vb_tf, vb_ft, vb_ff, List.getElem?_toArray, Call.operands, List.filterMap_nil, List.filterMap_cons, Nat.reduceAdd, List.contains_cons, Nat.reduceLT, Nat.reduceLeDiff, Nat.reduceSub, Nat.reduceEqDiff, Fl.wr, hitS, xback, lendX, vmix, pureOp, Fl.nofz, vio, vxgo, vmv, capOut, vs_a, vs_b, vs_c, vfloat, capBelow, Fl.unio, keepZ, nilP, moveTup, bq, tgs, List.getElem?_cons_succ, List.getElem?_cons_zero, Option.bind_some]
  have hw : IntKind.i64.wrap (Int.tdiv a 256) = Int.tdiv a 256 := wrap64 (by rw [Int.tdiv_eq_ediv_of_nonneg ha]; omega) (by rw [Int.tdiv_eq_ediv_of_nonneg ha]; omega)
  refine vbr (fun h => ?_) (fun h => ?_) <;> simp only [Sh.size, fillRow, fillSt, noH, PV.isH, Fl.sub, PV.isEmp, List.replicate, Nat.reduceMul, emp1, headRow, rowOf, nilTest, V.take, V.drop, usesG, capUses, emp0, hdv, vops, vguard, vread, vdraw, vreadD, pop, ref, ev, cvalue, nonroot, PV.isRoot, setD, List.set, lenOf, binop, intop, reduceCtorEq, capsOf, cOf, look, get, lendCaps, lendAll, lend, lendCap, okRes, isAdr, capPV, List.map, List.any, List.append, mentOk, ments, Op.operands, loaded, Sh.plain, Fl.allfz, grab, upd, hit, V.put, unop, eqop, Fl.good, Fl.sound, Fl.l, Fl.r, Fl.el, fpath, Sh.zero, bound, Path.pre, below, skipPV, dif_pos, Nat.reduceBEq, vb_tt, vb_tf, vb_ft, vb_ff, List.getElem?_toArray, Call.operands, List.filterMap_nil, List.filterMap_cons, Nat.reduceAdd, List.contains_cons, Nat.reduceLT, Nat.reduceLeDiff, Nat.reduceSub, Nat.reduceEqDiff, Fl.wr, hitS, xback, lendX, vmix, pureOp, Fl.nofz, vio, vxgo, vmv, capOut, vs_a, vs_b, vs_c, vfloat, capBelow, Fl.unio, keepZ, nilP, moveTup, bq, tgs, List.getElem?_cons_succ, List.getElem?_cons_zero, Option.bind_some]
  · rw [hw]
    refine ⟨by decide, ?_⟩
    refine hK _ ?_
    clear hK K
    try refine vthen_n ?_
    refine VW.ret ⟨.inl rfl, _, rfl, ?_⟩
    simp only [mine, h, Bool.true_and]
  · refine hK _ ?_
    clear hK K
    try refine vthen_n ?_
    refine VW.ret ⟨.inl rfl, _, rfl, ?_⟩
    simp only [mine, h, Bool.not_true, Bool.false_and]
/-- what Translate answers: no fault, or what fault -/
def TrOk (xs : List PG) (id a : Int) (w : Bool) (x n : Int) : Prop := (n = 0 ∧ ∃ i : Nat, i < xs.length ∧ mine id (Int.tdiv a 256) (xs.getD i zPG) = true ∧ (∀ k, k < i → mine id (Int.tdiv a 256) (xs.getD k zPG) = false) ∧ (w = true → (xs.getD i zPG).2.2.2 = true) ∧ x = (xs.getD i zPG).2.2.1 * 256 + Int.tmod a 256) ∨ (x = 0 ∧ n = 2 ∧ w = true) ∨ (x = 0 ∧ n = 1 ∧ ∀ k, k < xs.length → mine id (Int.tdiv a 256) (xs.getD k zPG) = false)
theorem gOk_at {xs : List PG} (h : gOk xs = true) {i : Nat} (hi : i < xs.length) : gAt xs i = false := by
  simp only [gOk, Bool.and_eq_true] at h
  exact of_decide_eq_true h.1 i hi
theorem inB_iff {x a b : Int} : inB x a b = true ↔ a ≤ x ∧ x ≤ b := by
  simp [inB]
theorem gOk_to {xs : List PG} (h : gOk xs = true) {i : Nat} (hi : i < xs.length) : 0 ≤ (xs.getD i zPG).2.2.1 ∧ (xs.getD i zPG).2.2.1 ≤ 255 := by
  have h1 := gOk_at h hi
  simp only [gAt, gBad, Bool.or_eq_false_iff, Bool.not_eq_false'] at h1
  exact inB_iff.1 h1.1.2.2
set_option maxRecDepth 20000 in
theorem tr_vc (xs : List PG) (id a : Int) (w : Bool) (hok : gOk xs = true) (ha : 0 ≤ a) (ha2 : a ≤ 65535) : VC Try.prog 40 [.v false sPGS xs, .v false (.int .i64) (id), .v false (.int .i64) (a), .v false .bool (w)] (fun pv => ∃ x n : Int, pv = .root (.tup [false, false]) (.pr (.int .i64) (.int .i64)) (.pr .fz .fz) (x, n) ∧ TrOk xs id a w x n) := by
  have hl := gOk_len hok
  refine VC.of_body hT Try.func40 rfl (by kernel_rfl) [(.tmp 8, false, .int .i64), (.tmp 9, false, .int .i64)] (by kernel_rfl) ?_
  show VW _ _ ([.v false sPGS xs, .v false (.int .i64) (id), .v false (.int .i64) (a), .v false .bool (w), D, D, D, D, D, D, D, D, D, D, D, D, D, D, D, D, D, D, D, D, D, D, D, D, D, D, D, D, D, D, D, D, D, D, D, D, D, D, D, D]) _
  repeat refine VW.seq ?_
  refine VW.regl hT fun K hK => ?_
  simp only [Sh.size, fillRow, fillSt, noH, PV.isH, Fl.sub, PV.isEmp, List.replicate, Nat.reduceMul, emp1, headRow, rowOf, nilTest, V.take, V.drop, usesG, capUses, emp0, hdv, vops, vguard, vread, vdraw, vreadD, pop, ref, ev, cvalue, nonroot, PV.isRoot, setD, List.set, lenOf, binop, intop, reduceCtorEq, capsOf, cOf, look, get, lendCaps, lendAll, lend, lendCap, okRes, isAdr, capPV, List.map, List.any, List.append, mentOk, ments, Op.operands, loaded, Sh.plain, Fl.allfz, grab, upd, hit, V.put, unop, eqop, Fl.good, Fl.sound, Fl.l, Fl.r, Fl.el, fpath, Sh.zero, bound, Path.pre, below, skipPV, dif_pos, Nat.reduceBEq, vb_tt, vb_tf, vb_ft, vb_ff, List.getElem?_toArray, Call.operands, List.filterMap_nil, List.filterMap_cons, Nat.reduceAdd, List.contains_cons, Nat.reduceLT, Nat.reduceLeDiff, Nat.reduceSub, Nat.reduceEqDiff, Fl.wr, hitS, xback, lendX, vmix, pureOp, Fl.nofz, vio, vxgo, vmv, capOut, vs_a, vs_b, vs_c, vfloat, capBelow, Fl.unio, keepZ, nilP, moveTup, bq, tgs, List.getElem?_cons_succ, List.getElem?_cons_zero, Option.bind_some]
  refine hK _ ?_
  clear hK K
  try refine vthen_n ?_
  repeat refine VW.seq ?_
  refine VW.regl hT fun K hK => ?_
  simp only [Sh.size, fillRow, fillSt, noH, PV.isH, Fl.sub, PV.isEmp, List.replicate, Nat.reduceMul, emp1, headRow, rowOf, nilTest, V.take, V.drop, usesG, capUses, emp0, hdv, vops, vguard, vread, vdraw, vreadD, pop, ref, ev, cvalue, nonroot, PV.isRoot, setD, List.set, lenOf, binop, intop, reduceCtorEq, capsOf, cOf, look, get, lendCaps, lendAll, lend, lendCap, okRes, isAdr, capPV, List.map, List.any, List.append, mentOk, ments, Op.operands, loaded, Sh.plain, Fl.allfz, grab, upd, hit, V.put, unop, eqop, Fl.good, Fl.sound, Fl.l, Fl.r, Fl.el, fpath, Sh.zero, bound, Path.pre, below, skipPV, dif_pos, Nat.reduceBEq, vb_tt, vb_tf, vb_ft, vb_ff, List.getElem?_toArray, Call.operands, List.filterMap_nil, List.filterMap_cons, Nat.reduceAdd, List.contains_cons, Nat.reduceLT, Nat.reduceLeDiff, Nat.reduceSub, Nat.reduceEqDiff, Fl.wr, hitS, xback, lendX, vmix, pureOp, Fl.nofz, vio, vxgo, vmv, capOut, vs_a, vs_b, vs_c, vfloat, capBelow, Fl.unio, keepZ, nilP, moveTup, bq, tgs, List.getElem?_cons_succ, List.getElem?_cons_zero, Option.bind_some]
  refine vcall_of (vc47 xs (by omega)) ?_
  simp only [Sh.size, fillRow, fillSt, noH, PV.isH, Fl.sub, PV.isEmp, List.replicate, Nat.reduceMul, emp1, headRow, rowOf, nilTest, V.take, V.drop, usesG, capUses, emp0, hdv, vops, vguard, vread, vdraw, vreadD, pop, ref, ev, cvalue, nonroot, PV.isRoot, setD, List.set, lenOf, binop, intop, reduceCtorEq, capsOf, cOf, look, get, lendCaps, lendAll, lend, lendCap, okRes, isAdr, capPV, List.map, List.any, List.append, mentOk, ments, Op.operands, loaded, Sh.plain, Fl.allfz, grab, upd, hit, V.put, unop, eqop, Fl.good, Fl.sound, Fl.l, Fl.r, Fl.el, fpath, Sh.zero, bound, Path.pre, below, skipPV, dif_pos, Nat.reduceBEq, vb_tt, vb_tf, vb_ft, vb_ff, List.getElem?_toArray, Call.operands, List.filterMap_nil, List.filterMap_cons, Nat.reduceAdd, List.contains_cons, Nat.reduceLT, Nat.reduceLeDiff, Nat.reduceSub, Nat.reduceEqDiff, Fl.wr, hitS, xback, lendX, vmix, pureOp, Fl.nofz, vio, vxgo, vmv, capOut, vs_a, vs_b, vs_c, vfloat, capBelow, Fl.unio, keepZ, nilP, moveTup, bq, tgs, List.getElem?_cons_succ, List.getElem?_cons_zero, Option.bind_some]
  refine vbr (fun h => ?_) (fun h => ?_) <;> simp only [Sh.size, fillRow, fillSt, noH, PV.isH, Fl.sub, PV.isEmp, List.replicate, Nat.reduceMul, emp1, headRow, rowOf, nilTest, V.take, V.drop, usesG, capUses, emp0, hdv, vops, vguard, vread, vdraw, vreadD, pop, ref, ev, cvalue, nonroot, PV.isRoot, setD, List.set, lenOf, binop, intop, reduceCtorEq, capsOf, cOf, look, get, lendCaps, lendAll, lend, lendCap, okRes, isAdr, capPV, List.map, List.any, List.append, mentOk, ments, Op.operands, loaded, Sh.plain, Fl.allfz, grab, upd, hit, V.put, unop, eqop, Fl.good, Fl.sound, Fl.l, Fl.r, Fl.el, fpath, Sh.zero, bound, Path.pre, below, skipPV, dif_pos, Nat.reduceBEq, vb_tt, vb_tf, vb_ft, vb_ff, List.getElem?_toArray, Call.operands, List.filterMap_nil, List.filterMap_cons, Nat.reduceAdd, List.contains_cons, Nat.reduceLT, Nat.reduceLeDiff, Nat.reduceSub, Nat.reduceEqDiff, Fl.wr, hitS, xback, lendX, vmix, pureOp, Fl.nofz, vio, vxgo, vmv, capOut, vs_a, vs_b, vs_c, vfloat, capBelow, Fl.unio, keepZ, nilP, moveTup, bq, tgs, List.getElem?_cons_succ, List.getElem?_cons_zero, Option.bind_some]
  case refine_2 =>
    have : gOk xs = false := by simpa using h
    rw [hok] at this; cases this
  refine vcall_of (vc102 a 0 65535) ?_
  simp only [Sh.size, fillRow, fillSt, noH, PV.isH, Fl.sub, PV.isEmp, List.replicate, Nat.reduceMul, emp1, headRow, rowOf, nilTest, V.take, V.drop, usesG, capUses, emp0, hdv, vops, vguard, vread, vdraw, vreadD, pop, ref, ev, cvalue, nonroot, PV.isRoot, setD, List.set, lenOf, binop, intop, reduceCtorEq, capsOf, cOf, look, get, lendCaps, lendAll, lend, lendCap, okRes, isAdr, capPV, List.map, List.any, List.append, mentOk, ments, Op.operands, loaded, Sh.plain, Fl.allfz, grab, upd, hit, V.put, unop, eqop, Fl.good, Fl.sound, Fl.l, Fl.r, Fl.el, fpath, Sh.zero, bound, Path.pre, below, skipPV, dif_pos, Nat.reduceBEq, vb_tt, vb_tf, vb_ft, vb_ff, List.getElem?_toArray, Call.operands, List.filterMap_nil, List.filterMap_cons, Nat.reduceAdd, List.contains_cons, Nat.reduceLT, Nat.reduceLeDiff, Nat.reduceSub, Nat.reduceEqDiff, Fl.wr, hitS, xback, lendX, vmix, pureOp, Fl.nofz, vio, vxgo, vmv, capOut, vs_a, vs_b, vs_c, vfloat, capBelow, Fl.unio, keepZ, nilP, moveTup, bq, tgs, List.getElem?_cons_succ, List.getElem?_cons_zero, Option.bind_some]
  refine hK _ ?_
  clear hK K
  try refine vthen_n ?_
  have hin : inB a 0 65535 = true := inB_iff.2 ⟨ha, ha2⟩
  repeat refine VW.seq ?_
  refine VW.cond rfl (fun hc => ?_) (fun hc => ?_)
  · rw [hin] at hc; cases hc
  refine VW.skip (vthen_n ?_)
  repeat refine VW.seq ?_
  refine VW.regl hT fun K hK => ?_
  simp only [Sh.size, fillRow, fillSt, noH, PV.isH, Fl.sub, PV.isEmp, List.replicate, Nat.reduceMul, emp1, headRow, rowOf, nilTest, V.take, V.drop, usesG, capUses, emp0, hdv, vops, vguard, vread, vdraw, vreadD, pop, ref, ev, cvalue, nonroot, PV.isRoot, setD, List.set, lenOf, binop, intop, reduceCtorEq, capsOf, cOf, look, get, lendCaps, lendAll, lend, lendCap, okRes, isAdr, capPV, List.map, List.any, List.append, mentOk, ments, Op.operands, loaded, Sh.plain, Fl.allfz, grab, upd, hit, V.put, unop, eqop, Fl.good, Fl.sound, Fl.l, Fl.r, Fl.el, fpath, Sh.zero, bound, Path.pre, below, skipPV, dif_pos, Nat.reduceBEq, vb_tt, vb_tf, vb_ft, vb_ff, List.getElem?_toArray, Call.operands, List.filterMap_nil, List.filterMap_cons, Nat.reduceAdd, List.contains_cons, Nat.reduceLT, Nat.reduceLeDiff, Nat.reduceSub, Nat.reduceEqDiff, Fl.wr, hitS, xback, lendX, vmix, pureOp, Fl.nofz, vio, vxgo, vmv, capOut, vs_a, vs_b, vs_c, vfloat, capBelow, Fl.unio, keepZ, nilP, moveTup, bq, tgs, List.getElem?_cons_succ, List.getElem?_cons_zero, Option.bind_some]
  refine vcall_ex (vc103 xs 104 [.fadr (.int .i64) id, .fadr (.int .i64) a] (mine id (Int.tdiv a 256)) rfl (fun x => tr1_vc x id a ha ha2) (by omega)) ?_
  rintro pv ⟨m, rfl, hix⟩
  simp only [Sh.size, fillRow, fillSt, noH, PV.isH, Fl.sub, PV.isEmp, List.replicate, Nat.reduceMul, emp1, headRow, rowOf, nilTest, V.take, V.drop, usesG, capUses, emp0, hdv, vops, vguard, vread, vdraw, vreadD, pop, ref, ev, cvalue, nonroot, PV.isRoot, setD, List.set, lenOf, binop, intop, reduceCtorEq, capsOf, cOf, look, get, lendCaps, lendAll, lend, lendCap, okRes, isAdr, capPV, List.map, List.any, List.append, mentOk, ments, Op.operands, loaded, Sh.plain, Fl.allfz, grab, upd, hit, V.put, unop, eqop, Fl.good, Fl.sound, Fl.l, Fl.r, Fl.el, fpath, Sh.zero, bound, Path.pre, below, skipPV, dif_pos, Nat.reduceBEq, vb_tt, vb_tf, vb_ft, vb_ff, List.getElem?_toArray, Call.operands, List.filterMap_nil, List.filterMap_cons, Nat.reduceAdd, List.contains_cons, Nat.reduceLT, Nat.reduceLeDiff, Nat.reduceSub, Nat.reduceEqDiff, Fl.wr, hitS, xback, lendX, vmix, pureOp, Fl.nofz, vio, vxgo, vmv, capOut, vs_a, vs_b, vs_c, vfloat, capBelow, Fl.unio, keepZ, nilP, moveTup, bq, tgs, List.getElem?_cons_succ, List.getElem?_cons_zero, Option.bind_some]
  refine hK _ ?_
  clear hK K
  try refine vthen_n ?_
  repeat refine VW.seq ?_
  refine VW.block ?_
  repeat refine VW.seq ?_
  refine VW.regl hT fun K hK => ?_
  simp only [Sh.size, fillRow, fillSt, noH, PV.isH, Fl.sub, PV.isEmp, List.replicate, Nat.reduceMul, emp1, headRow, rowOf, nilTest, V.take, V.drop, usesG, capUses, emp0, hdv, vops, vguard, vread, vdraw, vreadD, pop, ref, ev, cvalue, nonroot, PV.isRoot, setD, List.set, lenOf, binop, intop, reduceCtorEq, capsOf, cOf, look, get, lendCaps, lendAll, lend, lendCap, okRes, isAdr, capPV, List.map, List.any, List.append, mentOk, ments, Op.operands, loaded, Sh.plain, Fl.allfz, grab, upd, hit, V.put, unop, eqop, Fl.good, Fl.sound, Fl.l, Fl.r, Fl.el, fpath, Sh.zero, bound, Path.pre, below, skipPV, dif_pos, Nat.reduceBEq, vb_tt, vb_tf, vb_ft, vb_ff, List.getElem?_toArray, Call.operands, List.filterMap_nil, List.filterMap_cons, Nat.reduceAdd, List.contains_cons, Nat.reduceLT, Nat.reduceLeDiff, Nat.reduceSub, Nat.reduceEqDiff, Fl.wr, hitS, xback, lendX, vmix, pureOp, Fl.nofz, vio, vxgo, vmv, capOut, vs_a, vs_b, vs_c, vfloat, capBelow, Fl.unio, keepZ, nilP, moveTup, bq, tgs, List.getElem?_cons_succ, List.getElem?_cons_zero, Option.bind_some]
  refine hK _ ?_
  clear hK K
  try refine vthen_n ?_
  repeat refine VW.seq ?_
  refine VW.cond rfl (fun hc => ?_) (fun hc => ?_)
  · repeat refine VW.seq ?_
    refine VW.regl hT fun K hK => ?_
    simp only [Sh.size, fillRow, fillSt, noH, PV.isH, Fl.sub, PV.isEmp, List.replicate, Nat.reduceMul, emp1, headRow, rowOf, nilTest, V.take, V.drop, usesG, capUses, emp0, hdv, vops, vguard, vread, vdraw, vreadD, pop, ref, ev, cvalue, nonroot, PV.isRoot, setD, List.set, lenOf, binop, intop, reduceCtorEq, capsOf, cOf, look, get, lendCaps, lendAll, lend, lendCap, okRes, isAdr, capPV, List.map, List.any, List.append, mentOk, ments, Op.operands, loaded, Sh.plain, Fl.allfz, grab, upd, hit, V.put, unop, eqop, Fl.good, Fl.sound, Fl.l, Fl.r, Fl.el, fpath, Sh.zero, bound, Path.pre, below, skipPV, dif_pos, Nat.reduceBEq, vb_tt, vb_tf, vb_ft, vb_ff, List.getElem?_toArray, Call.operands, List.filterMap_nil, List.filterMap_cons, Nat.reduceAdd, List.contains_cons, Nat.reduceLT, Nat.reduceLeDiff, Nat.reduceSub, Nat.reduceEqDiff, Fl.wr, hitS, xback, lendX, vmix, pureOp, Fl.nofz, vio, vxgo, vmv, capOut, vs_a, vs_b, vs_c, vfloat, capBelow, Fl.unio, keepZ, nilP, moveTup, bq, tgs, List.getElem?_cons_succ, List.getElem?_cons_zero, Option.bind_some]
    refine hK _ ?_
    clear hK K
    try refine vthen_n ?_
    have hlt : m < 0 := of_decide_eq_true hc
    rcases hix with ⟨_, h⟩ | ⟨i, _, h, _⟩
    · refine VW.ret ⟨.inl rfl, _, rfl, 0, 1, rfl, .inr (.inr ⟨rfl, rfl, h⟩)⟩
    · omega
  have hge : ¬ m < 0 := of_decide_eq_false hc
  obtain ⟨i, hi, rfl, hp, hk⟩ : ∃ i : Nat, i < xs.length ∧ m = i ∧ mine id (Int.tdiv a 256) (xs.getD i zPG) = true ∧ ∀ k, k < i → mine id (Int.tdiv a 256) (xs.getD k zPG) = false := by
    rcases hix with ⟨h1, _⟩ | h
    · omega
    · exact h
  have hto := gOk_to hok hi
  have hidx : decide (0 ≤ (i : Int) ∧ (i : Int) < (xs.length : Int)) = true := decide_eq_true ⟨Int.natCast_nonneg _, by omega⟩
  repeat refine VW.seq ?_
  refine VW.regl hT fun K hK => ?_
  simp only [Sh.size, fillRow, fillSt, noH, PV.isH, Fl.sub, PV.isEmp, List.replicate, Nat.reduceMul, emp1, headRow, rowOf, nilTest, V.take, V.drop, usesG, capUses, emp0, hdv, vops, vguard, vread, vdraw, vreadD, pop, ref, ev, cvalue, nonroot, PV.isRoot, setD, List.set, lenOf, binop, intop, reduceCtorEq, capsOf, cOf, look, get, lendCaps, lendAll, lend, lendCap, okRes, isAdr, capPV, List.map, List.any, List.append, mentOk, ments, Op.operands, loaded, Sh.plain, Fl.allfz, grab, upd, hit, V.put, unop, eqop, Fl.good, Fl.sound, Fl.l, Fl.r, Fl.el, fpath, Sh.zero, bound, Path.pre, below, skipPV, dif_pos, Nat.reduceBEq, vb_tt, vb_tf, vb_ft, vb_ff, List.getElem?_toArray, Call.operands, List.filterMap_nil, List.filterMap_cons, Nat.reduceAdd, List.contains_cons, Nat.reduceLT, Nat.reduceLeDiff, Nat.reduceSub, Nat.reduceEqDiff, Fl.wr, hitS, xback, lendX, vmix, pureOp, Fl.nofz, vio, vxgo, vmv, capOut, vs_a, vs_b, vs_c, vfloat, capBelow, Fl.unio, keepZ, nilP, moveTup, bq, tgs, List.getElem?_cons_succ, List.getElem?_cons_zero, Option.bind_some]
  refine vbr (fun g => ?_) (fun g => ?_) <;> simp only [Sh.size, fillRow, fillSt, noH, PV.isH, Fl.sub, PV.isEmp, List.replicate, Nat.reduceMul, emp1, headRow, rowOf, nilTest, V.take, V.drop, usesG, capUses, emp0, hdv, vops, vguard, vread, vdraw, vreadD, pop, ref, ev, cvalue, nonroot, PV.isRoot, setD, List.set, lenOf, binop, intop, reduceCtorEq, capsOf, cOf, look, get, lendCaps, lendAll, lend, lendCap, okRes, isAdr, capPV, List.map, List.any, List.append, mentOk, ments, Op.operands, loaded, Sh.plain, Fl.allfz, grab, upd, hit, V.put, unop, eqop, Fl.good, Fl.sound, Fl.l, Fl.r, Fl.el, fpath, Sh.zero, bound, Path.pre, below, skipPV, dif_pos, Nat.reduceBEq, vb_tt, vb_tf, vb_ft, vb_ff, List.getElem?_toArray, Call.operands, List.filterMap_nil, List.filterMap_cons, Nat.reduceAdd, List.contains_cons, Nat.reduceLT, Nat.reduceLeDiff, Nat.reduceSub, Nat.reduceEqDiff, Fl.wr, hitS, xback, lendX, vmix, pureOp, Fl.nofz, vio, vxgo, vmv, capOut, vs_a, vs_b, vs_c, vfloat, capBelow, Fl.unio, keepZ, nilP, moveTup, bq, tgs, List.getElem?_cons_succ, List.getElem?_cons_zero, Option.bind_some]
  · refine ⟨hidx, ?_⟩
    refine hK _ ?_
    clear hK K
    try refine vthen_n ?_
    repeat refine VW.seq ?_
    refine VW.cond rfl (fun hc => ?_) (fun hc => ?_)
    · repeat refine VW.seq ?_
      refine VW.regl hT fun K hK => ?_
      simp only [Sh.size, fillRow, fillSt, noH, PV.isH, Fl.sub, PV.isEmp, List.replicate, Nat.reduceMul, emp1, headRow, rowOf, nilTest, V.take, V.drop, usesG, capUses, emp0, hdv, vops, vguard, vread, vdraw, vreadD, pop, ref, ev, cvalue, nonroot, PV.isRoot, setD, List.set, lenOf, binop, intop, reduceCtorEq, capsOf, cOf, look, get, lendCaps, lendAll, lend, lendCap, okRes, isAdr, capPV, List.map, List.any, List.append, mentOk, ments, Op.operands, loaded, Sh.plain, Fl.allfz, grab, upd, hit, V.put, unop, eqop, Fl.good, Fl.sound, Fl.l, Fl.r, Fl.el, fpath, Sh.zero, bound, Path.pre, below, skipPV, dif_pos, Nat.reduceBEq, vb_tt, vb_tf, vb_ft, vb_ff, List.getElem?_toArray, Call.operands, List.filterMap_nil, List.filterMap_cons, Nat.reduceAdd, List.contains_cons, Nat.reduceLT, Nat.reduceLeDiff, Nat.reduceSub, Nat.reduceEqDiff, Fl.wr, hitS, xback, lendX, vmix, pureOp, Fl.nofz, vio, vxgo, vmv, capOut, vs_a, vs_b, vs_c, vfloat, capBelow, Fl.unio, keepZ, nilP, moveTup, bq, tgs, List.getElem?_cons_succ, List.getElem?_cons_zero, Option.bind_some]
      refine hK _ ?_
      clear hK K
      try refine vthen_n ?_
      exact VW.ret ⟨.inl rfl, _, rfl, 0, 2, rfl, .inr (.inl ⟨rfl, rfl, g⟩)⟩
    have hc2 : (xs.getD i zPG).2.2.2 = true := by simpa using hc
    refine VW.skip ?_
    repeat refine VW.seq ?_
    refine VW.drawl hT hm (by kernel_rfl) fun K hK => ?_
    simp only [Sh.size, fillRow, fillSt, noH, PV.isH, Fl.sub, PV.isEmp, List.replicate, Nat.reduceMul, emp1, headRow, rowOf, nilTest, V.take, V.drop, usesG, capUses, emp0, hdv, vops, vguard, vread, vdraw, vreadD, pop, ref, ev, cvalue, nonroot, PV.isRoot, setD, List.set, lenOf, binop, intop, reduceCtorEq, capsOf, cOf, look, get, lendCaps, lendAll, lend, lendCap, okRes, isAdr, capPV, List.map, List.any, List.append, mentOk, ments, Op.operands, loaded, Sh.plain, Fl.allfz, grab, upd, hit, V.put, unop, eqop, Fl.good, Fl.sound, Fl.l, Fl.r, Fl.el, fpath, Sh.zero, bound, Path.pre, below, skipPV, dif_pos, Nat.reduceBEq, vb_tt, vb_tf, vb_ft, vb_ff, List.getElem?_toArray, Call.operands, List.filterMap_nil, List.filterMap_cons, Nat.reduceAdd, List.contains_cons, Nat.reduceLT, Nat.reduceLeDiff, Nat.reduceSub, Nat.reduceEqDiff, Fl.wr, hitS, xback, lendX, vmix, pureOp, Fl.nofz, vio, vxgo, vmv, capOut, vs_a, vs_b, vs_c, vfloat, capBelow, Fl.unio, keepZ, nilP, moveTup, bq, tgs, List.getElem?_cons_succ, List.getElem?_cons_zero, Option.bind_some]
    have hwm : IntKind.i64.wrap (IntKind.i64.wrap ((xs.getD i (0, 0, 0, false)).2.2.1 * 256) + Int.tmod a 256) = (xs.getD i (0, 0, 0, false)).2.2.1 * 256 + Int.tmod a 256 := by
      have h1 : 0 ≤ Int.tmod a 256 ∧ Int.tmod a 256 < 256 := by rw [Int.tmod_eq_emod_of_nonneg ha]; omega
      have h2 : 0 ≤ (xs.getD i (0, 0, 0, false)).2.2.1 ∧ (xs.getD i (0, 0, 0, false)).2.2.1 ≤ 255 := hto
      rw [wrap64 (x := (xs.getD i (0, 0, 0, false)).2.2.1 * 256) (by omega) (by omega), wrap64 (by omega) (by omega)]
    refine ⟨hidx, by kernel_rfl, by decide, ?_⟩
    refine hK _ ?_
    clear hK K
    try refine vthen_n ?_
    exact VW.ret ⟨.inl rfl, _, rfl, _, 0, rfl, .inl ⟨rfl, i, hi, hp, hk, fun _ => hc2, hwm⟩⟩
  · refine hK _ ?_
    clear hK K
    try refine vthen_n ?_
    repeat refine VW.seq ?_
    refine VW.cond rfl (fun hc => ?_) (fun hc => ?_)
    · cases hc
    refine VW.skip ?_
    repeat refine VW.seq ?_
    refine VW.drawl hT hm (by kernel_rfl) fun K hK => ?_
    simp only [Sh.size, fillRow, fillSt, noH, PV.isH, Fl.sub, PV.isEmp, List.replicate, Nat.reduceMul, emp1, headRow, rowOf, nilTest, V.take, V.drop, usesG, capUses, emp0, hdv, vops, vguard, vread, vdraw, vreadD, pop, ref, ev, cvalue, nonroot, PV.isRoot, setD, List.set, lenOf, binop, intop, reduceCtorEq, capsOf, cOf, look, get, lendCaps, lendAll, lend, lendCap, okRes, isAdr, capPV, List.map, List.any, List.append, mentOk, ments, Op.operands, loaded, Sh.plain, Fl.allfz, grab, upd, hit, V.put, unop, eqop, Fl.good, Fl.sound, Fl.l, Fl.r, Fl.el, fpath, Sh.zero, bound, Path.pre, below, skipPV, dif_pos, Nat.reduceBEq, vb_tt, vb_tf, vb_ft, vb_ff, List.getElem?_toArray, Call.operands, List.filterMap_nil, List.filterMap_cons, Nat.reduceAdd, List.contains_cons, Nat.reduceLT, Nat.reduceLeDiff, Nat.reduceSub, Nat.reduceEqDiff, Fl.wr, hitS, xback, lendX, vmix, pureOp, Fl.nofz, vio, vxgo, vmv, capOut, vs_a, vs_b, vs_c, vfloat, capBelow, Fl.unio, keepZ, nilP, moveTup, bq, tgs, List.getElem?_cons_succ, List.getElem?_cons_zero, Option.bind_some]
    have hwm : IntKind.i64.wrap (IntKind.i64.wrap ((xs.getD i (0, 0, 0, false)).2.2.1 * 256) + Int.tmod a 256) = (xs.getD i (0, 0, 0, false)).2.2.1 * 256 + Int.tmod a 256 := by
      have h1 : 0 ≤ Int.tmod a 256 ∧ Int.tmod a 256 < 256 := by rw [Int.tmod_eq_emod_of_nonneg ha]; omega
      have h2 : 0 ≤ (xs.getD i (0, 0, 0, false)).2.2.1 ∧ (xs.getD i (0, 0, 0, false)).2.2.1 ≤ 255 := hto
      rw [wrap64 (x := (xs.getD i (0, 0, 0, false)).2.2.1 * 256) (by omega) (by omega), wrap64 (by omega) (by omega)]
    refine ⟨hidx, by kernel_rfl, by decide, ?_⟩
    refine hK _ ?_
    clear hK K
    try refine vthen_n ?_
    exact VW.ret ⟨.inl rfl, _, rfl, _, 0, rfl, .inl ⟨rfl, i, hi, hp, hk, (fun e => by rw [show w = false from g] at e; cases e), hwm⟩⟩
/-- Translate for reading -/
def trF (xs : List PG) (id a : Int) : Int × Int := match xs.find? (mine id (Int.tdiv a 256)) with
  | none => (0, 1)
  | some g => (g.2.2.1 * 256 + Int.tmod a 256, 0)
theorem find_first {p : PG → Bool} : ∀ {xs : List PG} {i : Nat}, i < xs.length → p (xs.getD i zPG) = true → (∀ k, k < i → p (xs.getD k zPG) = false) → xs.find? p = some (xs.getD i zPG)
  | [], i, h, _, _ => by simp at h
  | x :: r, 0, _, h1, _ => by
    have h1 : p x = true := h1
    rw [List.find?_cons, h1]; rfl
  | x :: r, i + 1, h, h1, h2 => by
    have h0 : p x = false := h2 0 (by omega)
    rw [List.find?_cons, h0]
    exact find_first (xs := r) (by simpa using h) h1 fun k hk => h2 (k + 1) (by omega)
theorem find_none {p : PG → Bool} {xs : List PG} (h : ∀ k, k < xs.length → p (xs.getD k zPG) = false) : xs.find? p = none := by
  rw [List.find?_eq_none]
  intro x hx
  obtain ⟨k, hk, rfl⟩ := List.mem_iff_getElem.1 hx
  have := h k hk
  rw [List.getD_eq_getElem?_getD, List.getElem?_eq_getElem hk] at this
  simpa using this
theorem TrOk.eq {xs : List PG} {id a x n : Int} (h : TrOk xs id a false x n) : (x, n) = trF xs id a := by
  unfold trF
  rcases h with ⟨rfl, i, hi, h1, h2, _, rfl⟩ | ⟨_, _, h⟩ | ⟨rfl, rfl, h⟩
  · rw [find_first hi h1 h2]
  · cases h
  · rw [find_none h]
theorem tr0_vc (xs : List PG) (id a : Int) (hok : gOk xs = true) (ha : 0 ≤ a) (ha2 : a ≤ 65535) : VC Try.prog 40 [.v false sPGS xs, .v false (.int .i64) (id), .v false (.int .i64) (a), .v false .bool (false)] (· = .root (.tup [false, false]) (.pr (.int .i64) (.int .i64)) (.pr .fz .fz) (trF xs id a)) :=
  (tr_vc xs id a false hok ha ha2).mono fun pv ⟨x, n, e, h⟩ => by rw [e, h.eq]
theorem trF_ok (xs : List PG) (id a : Int) : TrOk xs id a false (trF xs id a).1 (trF xs id a).2 := by
  unfold trF
  cases hf : xs.find? (mine id (Int.tdiv a 256)) with
  | none =>
    refine .inr (.inr ⟨rfl, rfl, fun k hk => ?_⟩)
    have := List.find?_eq_none.1 hf (xs.getD k zPG) (by rw [List.getD_eq_getElem?_getD, List.getElem?_eq_getElem hk]; exact List.getElem_mem _)
    simpa using this
  | some g =>
    obtain ⟨hg, i, hi, rfl, hk⟩ := List.find?_eq_some_iff_getElem.1 hf
    have e : ∀ {j : Nat} (hj : j < xs.length), xs.getD j zPG = xs[j] := fun hj => by rw [List.getD_eq_getElem?_getD, List.getElem?_eq_getElem hj]; rfl
    refine .inl ⟨rfl, i, hi, by rw [e hi]; exact hg, fun k hk' => ?_, (fun h => by cases h), by rw [e hi]⟩
    rw [e (by omega)]
    simpa using hk k hk'
end Go.Proofs.Yteeklekfafedcaa.V.X

/- The drawing cursor walked: l01New, l01Byte, l01Below, l01PickInt. No condition. -/
import Derived.Test.YteeklekfafedcaaW1
import Derived.Test.YteeklekfafedcaaV29
set_option linter.unusedVariables false
set_option linter.unnecessarySimpa false
set_option linter.unusedSimpArgs false
namespace Go.Proofs.Yteeklekfafedcaa.V.W
open Go Go.RowKit
abbrev sB : Sh := .sl 5 (.int .u8)
abbrev sC : Sh := .pr sB (.pr (.int .i64) (.int .i64))
abbrev Cur := List Int × Int × Int
abbrev bC : RK := .box 145
theorem and255 (a : Int) : 0 ≤ IntKind.i64.wrap (BitVec.ofInt IntKind.i64.bits a &&& BitVec.ofInt IntKind.i64.bits 255).toNat ∧ IntKind.i64.wrap (BitVec.ofInt IntKind.i64.bits a &&& BitVec.ofInt IntKind.i64.bits 255).toNat ≤ 255 := by
  have h : (BitVec.ofInt IntKind.i64.bits a &&& BitVec.ofInt IntKind.i64.bits 255).toNat ≤ 255 := by
    rw [BitVec.toNat_and]
    exact Nat.le_trans Nat.and_le_right (by decide)
  rw [wrap64 (by omega) (by omega)]
  omega
/-- what a draw leaves of the cursor -/
def curR (A : Option Addr) (c : Nat) (b : List Int) (lo hi : Int) (pv ot : PV) : Prop := ∃ (m i h : Int) (r : Fl), pv = .v false (.int .i64) (m) ∧ lo ≤ m ∧ m < hi ∧ 0 ≤ i ∧ ot = .root bC sC (.pr (.kz A c) r) (b, i, h)
set_option maxRecDepth 20000 in
theorem byte_vx (A : Option Addr) (c : Nat) (r : Fl) (b : List Int) (i h : Int) (hi : 0 ≤ i) (hl : b.length ≤ 1048576) :
    VX Try.prog 130 [.root bC sC (.pr (.kz A c) r) (b, i, h)] 0 (curR A c b 0 256) := by
  refine VX.of_box hT Try.func130 rfl (by kernel_rfl) [(.tmp 2, false, .int .i64)] (by kernel_rfl) rfl fun bb => ?_
  show VW _ _ ([.root (.ibox 145 bb) sC (.pr (.kz A c) r) (b, i, h), D, D, D, D, D, D, D, D, D, D, D, D, D, D, D, D, D, D, D, D, D, D, D, D, D, D, D, D, D, D, D, D, D, D, D, D, D, D, D, D, D, D, D, D, D, D, D, D, D, D, D, D, D, D, D, D, D]) _
  repeat refine VW.seq ?_
  refine VW.regl hT fun K hK => ?_
  simp only [Sh.size, fillRow, fillSt, noH, PV.isH, Fl.sub, PV.isEmp, List.replicate, Nat.reduceMul, emp1, headRow, rowOf, nilTest, V.take, V.drop, usesG, capUses, emp0, hdv, vops, vguard, vread, vdraw, vreadD, pop, ref, ev, cvalue, nonroot, PV.isRoot, setD, List.set, lenOf, binop, intop, reduceCtorEq, capsOf, cOf, look, get, lendCaps, lendAll, lend, lendCap, okRes, isAdr, capPV, List.map, List.any, List.append, mentOk, ments, Op.operands, loaded, Sh.plain, Fl.allfz, grab, upd, hit, V.put, unop, eqop, Fl.good, Fl.sound, Fl.l, Fl.r, Fl.el, fpath, Sh.zero, bound, Path.pre, below, skipPV, dif_pos, Nat.reduceBEq, vb_tt, vb_tf, vb_ft, vb_ff, List.getElem?_toArray, Call.operands, List.filterMap_nil, List.filterMap_cons, Nat.reduceAdd, List.contains_cons, Nat.reduceLT, Nat.reduceLeDiff, Nat.reduceSub, Nat.reduceEqDiff, Fl.wr, hitS, xback, lendX, vmix, pureOp, Fl.nofz, vio, vxgo, vmv, capOut, vs_a, vs_b, vs_c, vfloat, capBelow, Fl.unio, keepZ, nilP, moveTup, bq, tgs, List.getElem?_cons_succ, List.getElem?_cons_zero, Option.bind_some]
  refine hK _ ?_
  clear hK K
  try refine vthen_n ?_
  repeat refine VW.seq ?_
  refine VW.regl hT fun K hK => ?_
  simp only [Sh.size, fillRow, fillSt, noH, PV.isH, Fl.sub, PV.isEmp, List.replicate, Nat.reduceMul, emp1, headRow, rowOf, nilTest, V.take, V.drop, usesG, capUses, emp0, hdv, vops, vguard, vread, vdraw, vreadD, pop, ref, ev, cvalue, nonroot, PV.isRoot, setD, List.set, lenOf, binop, intop, reduceCtorEq, capsOf, cOf, look, get, lendCaps, lendAll, lend, lendCap, okRes, isAdr, capPV, List.map, List.any, List.append, mentOk, ments, Op.operands, loaded, Sh.plain, Fl.allfz, grab, upd, hit, V.put, unop, eqop, Fl.good, Fl.sound, Fl.l, Fl.r, Fl.el, fpath, Sh.zero, bound, Path.pre, below, skipPV, dif_pos, Nat.reduceBEq, vb_tt, vb_tf, vb_ft, vb_ff, List.getElem?_toArray, Call.operands, List.filterMap_nil, List.filterMap_cons, Nat.reduceAdd, List.contains_cons, Nat.reduceLT, Nat.reduceLeDiff, Nat.reduceSub, Nat.reduceEqDiff, Fl.wr, hitS, xback, lendX, vmix, pureOp, Fl.nofz, vio, vxgo, vmv, capOut, vs_a, vs_b, vs_c, vfloat, capBelow, Fl.unio, keepZ, nilP, moveTup, bq, tgs, List.getElem?_cons_succ, List.getElem?_cons_zero, Option.bind_some]
  refine hK _ ?_
  clear hK K
  try refine vthen_n ?_
  generalize IntKind.i64.wrap (IntKind.i64.wrap (h * 6364136223846793005) + 1442695040888963407) = h1
  repeat refine VW.seq ?_
  refine VW.drawl hT hm (by kernel_rfl) fun K hK => ?_
  simp only [Sh.size, fillRow, fillSt, noH, PV.isH, Fl.sub, PV.isEmp, List.replicate, Nat.reduceMul, emp1, headRow, rowOf, nilTest, V.take, V.drop, usesG, capUses, emp0, hdv, vops, vguard, vread, vdraw, vreadD, pop, ref, ev, cvalue, nonroot, PV.isRoot, setD, List.set, lenOf, binop, intop, reduceCtorEq, capsOf, cOf, look, get, lendCaps, lendAll, lend, lendCap, okRes, isAdr, capPV, List.map, List.any, List.append, mentOk, ments, Op.operands, loaded, Sh.plain, Fl.allfz, grab, upd, hit, V.put, unop, eqop, Fl.good, Fl.sound, Fl.l, Fl.r, Fl.el, fpath, Sh.zero, bound, Path.pre, below, skipPV, dif_pos, Nat.reduceBEq, vb_tt, vb_tf, vb_ft, vb_ff, List.getElem?_toArray, Call.operands, List.filterMap_nil, List.filterMap_cons, Nat.reduceAdd, List.contains_cons, Nat.reduceLT, Nat.reduceLeDiff, Nat.reduceSub, Nat.reduceEqDiff, Fl.wr, hitS, xback, lendX, vmix, pureOp, Fl.nofz, vio, vxgo, vmv, capOut, vs_a, vs_b, vs_c, vfloat, capBelow, Fl.unio, keepZ, nilP, moveTup, bq, tgs, List.getElem?_cons_succ, List.getElem?_cons_zero, Option.bind_some]
  refine ⟨by kernel_rfl, by kernel_rfl, by kernel_rfl, by kernel_rfl, by decide, by kernel_rfl, by kernel_rfl, by kernel_rfl, by kernel_rfl, by decide, ?_⟩
  refine hK _ ?_
  clear hK K
  try refine vthen_n ?_
  obtain ⟨m, hmb, hme⟩ : ∃ m : Int, (0 ≤ m ∧ m ≤ 255) ∧ IntKind.i64.wrap (BitVec.ofInt IntKind.i64.bits (IntKind.i64.wrap (BitVec.ofInt IntKind.i64.bits (h1.fdiv (2 ^ min (Int.toNat 33) IntKind.i64.bits)) ^^^ BitVec.ofInt IntKind.i64.bits (h1.fdiv (2 ^ min (Int.toNat 45) IntKind.i64.bits))).toNat) &&& BitVec.ofInt IntKind.i64.bits 255).toNat = m := ⟨_, and255 _, rfl⟩
  rw [hme]
  repeat refine VW.seq ?_
  refine VW.drawl hT hm (by kernel_rfl) fun K hK => ?_
  simp only [Sh.size, fillRow, fillSt, noH, PV.isH, Fl.sub, PV.isEmp, List.replicate, Nat.reduceMul, emp1, headRow, rowOf, nilTest, V.take, V.drop, usesG, capUses, emp0, hdv, vops, vguard, vread, vdraw, vreadD, pop, ref, ev, cvalue, nonroot, PV.isRoot, setD, List.set, lenOf, binop, intop, reduceCtorEq, capsOf, cOf, look, get, lendCaps, lendAll, lend, lendCap, okRes, isAdr, capPV, List.map, List.any, List.append, mentOk, ments, Op.operands, loaded, Sh.plain, Fl.allfz, grab, upd, hit, V.put, unop, eqop, Fl.good, Fl.sound, Fl.l, Fl.r, Fl.el, fpath, Sh.zero, bound, Path.pre, below, skipPV, dif_pos, Nat.reduceBEq, vb_tt, vb_tf, vb_ft, vb_ff, List.getElem?_toArray, Call.operands, List.filterMap_nil, List.filterMap_cons, Nat.reduceAdd, List.contains_cons, Nat.reduceLT, Nat.reduceLeDiff, Nat.reduceSub, Nat.reduceEqDiff, Fl.wr, hitS, xback, lendX, vmix, pureOp, Fl.nofz, vio, vxgo, vmv, capOut, vs_a, vs_b, vs_c, vfloat, capBelow, Fl.unio, keepZ, nilP, moveTup, bq, tgs, List.getElem?_cons_succ, List.getElem?_cons_zero, Option.bind_some]
  refine ⟨by kernel_rfl, by kernel_rfl, by kernel_rfl, by kernel_rfl, by kernel_rfl, by kernel_rfl, by kernel_rfl, by kernel_rfl, ?_⟩
  refine hK _ ?_
  clear hK K
  try refine vthen_n ?_
  repeat refine VW.seq ?_
  refine VW.cond rfl (fun hc => ?_) (fun hc => ?_)
  · have hlt : i < b.length := by simpa using hc
    repeat refine VW.seq ?_
    refine VW.mixl hT hm 0 14 (by kernel_rfl) fun K hK => ?_
    simp only [Sh.size, fillRow, fillSt, noH, PV.isH, Fl.sub, PV.isEmp, List.replicate, Nat.reduceMul, emp1, headRow, rowOf, nilTest, V.take, V.drop, usesG, capUses, emp0, hdv, vops, vguard, vread, vdraw, vreadD, pop, ref, ev, cvalue, nonroot, PV.isRoot, setD, List.set, lenOf, binop, intop, reduceCtorEq, capsOf, cOf, look, get, lendCaps, lendAll, lend, lendCap, okRes, isAdr, capPV, List.map, List.any, List.append, mentOk, ments, Op.operands, loaded, Sh.plain, Fl.allfz, grab, upd, hit, V.put, unop, eqop, Fl.good, Fl.sound, Fl.l, Fl.r, Fl.el, fpath, Sh.zero, bound, Path.pre, below, skipPV, dif_pos, Nat.reduceBEq, vb_tt, vb_tf, vb_ft, vb_ff, List.getElem?_toArray, Call.operands, List.filterMap_nil, List.filterMap_cons, Nat.reduceAdd, List.contains_cons, Nat.reduceLT, Nat.reduceLeDiff, Nat.reduceSub, Nat.reduceEqDiff, Fl.wr, hitS, xback, lendX, vmix, pureOp, Fl.nofz, vio, vxgo, vmv, capOut, vs_a, vs_b, vs_c, vfloat, capBelow, Fl.unio, keepZ, nilP, moveTup, bq, tgs, List.getElem?_cons_succ, List.getElem?_cons_zero, Option.bind_some]
    refine ⟨by kernel_rfl, by kernel_rfl, by kernel_rfl, by kernel_rfl, by kernel_rfl, by kernel_rfl, by kernel_rfl, by kernel_rfl, decide_eq_true ⟨hi, by show i < (b.length : Int); omega⟩, ?_⟩
    refine hK _ ?_
    clear hK K
    try refine vthen_n ?_
    obtain ⟨m2, hm2, hme2⟩ : ∃ m2 : Int, (0 ≤ m2 ∧ m2 ≤ 255) ∧ IntKind.i64.wrap (BitVec.ofInt IntKind.i64.bits (IntKind.i64.wrap (m + IntKind.i64.wrap (b.getD i.toNat 0))) &&& BitVec.ofInt IntKind.i64.bits 255).toNat = m2 := ⟨_, and255 _, rfl⟩
    rw [hme2]
    repeat refine VW.seq ?_
    refine VW.regl hT fun K hK => ?_
    simp only [Sh.size, fillRow, fillSt, noH, PV.isH, Fl.sub, PV.isEmp, List.replicate, Nat.reduceMul, emp1, headRow, rowOf, nilTest, V.take, V.drop, usesG, capUses, emp0, hdv, vops, vguard, vread, vdraw, vreadD, pop, ref, ev, cvalue, nonroot, PV.isRoot, setD, List.set, lenOf, binop, intop, reduceCtorEq, capsOf, cOf, look, get, lendCaps, lendAll, lend, lendCap, okRes, isAdr, capPV, List.map, List.any, List.append, mentOk, ments, Op.operands, loaded, Sh.plain, Fl.allfz, grab, upd, hit, V.put, unop, eqop, Fl.good, Fl.sound, Fl.l, Fl.r, Fl.el, fpath, Sh.zero, bound, Path.pre, below, skipPV, dif_pos, Nat.reduceBEq, vb_tt, vb_tf, vb_ft, vb_ff, List.getElem?_toArray, Call.operands, List.filterMap_nil, List.filterMap_cons, Nat.reduceAdd, List.contains_cons, Nat.reduceLT, Nat.reduceLeDiff, Nat.reduceSub, Nat.reduceEqDiff, Fl.wr, hitS, xback, lendX, vmix, pureOp, Fl.nofz, vio, vxgo, vmv, capOut, vs_a, vs_b, vs_c, vfloat, capBelow, Fl.unio, keepZ, nilP, moveTup, bq, tgs, List.getElem?_cons_succ, List.getElem?_cons_zero, Option.bind_some]
    refine hK _ ?_
    clear hK K
    try refine vthen_n ?_
    rw [wrap64 (by omega) (by omega)]
    show vthen _ _ _ .normal _
    refine vthen_n ?_
    repeat refine VW.seq ?_
    refine VW.regl hT fun K hK => ?_
    simp only [Sh.size, fillRow, fillSt, noH, PV.isH, Fl.sub, PV.isEmp, List.replicate, Nat.reduceMul, emp1, headRow, rowOf, nilTest, V.take, V.drop, usesG, capUses, emp0, hdv, vops, vguard, vread, vdraw, vreadD, pop, ref, ev, cvalue, nonroot, PV.isRoot, setD, List.set, lenOf, binop, intop, reduceCtorEq, capsOf, cOf, look, get, lendCaps, lendAll, lend, lendCap, okRes, isAdr, capPV, List.map, List.any, List.append, mentOk, ments, Op.operands, loaded, Sh.plain, Fl.allfz, grab, upd, hit, V.put, unop, eqop, Fl.good, Fl.sound, Fl.l, Fl.r, Fl.el, fpath, Sh.zero, bound, Path.pre, below, skipPV, dif_pos, Nat.reduceBEq, vb_tt, vb_tf, vb_ft, vb_ff, List.getElem?_toArray, Call.operands, List.filterMap_nil, List.filterMap_cons, Nat.reduceAdd, List.contains_cons, Nat.reduceLT, Nat.reduceLeDiff, Nat.reduceSub, Nat.reduceEqDiff, Fl.wr, hitS, xback, lendX, vmix, pureOp, Fl.nofz, vio, vxgo, vmv, capOut, vs_a, vs_b, vs_c, vfloat, capBelow, Fl.unio, keepZ, nilP, moveTup, bq, tgs, List.getElem?_cons_succ, List.getElem?_cons_zero, Option.bind_some]
    refine hK _ ?_
    clear hK K
    try refine vthen_n ?_
    refine VW.ret ⟨.inl rfl, _, _, _, _, rfl, ⟨0, rfl⟩, m2, i + 1, h1, _, rfl, hm2.1, by omega, by omega, rfl⟩
  · refine VW.skip ?_
    show vthen _ _ _ .normal _
    refine vthen_n ?_
    repeat refine VW.seq ?_
    refine VW.regl hT fun K hK => ?_
    simp only [Sh.size, fillRow, fillSt, noH, PV.isH, Fl.sub, PV.isEmp, List.replicate, Nat.reduceMul, emp1, headRow, rowOf, nilTest, V.take, V.drop, usesG, capUses, emp0, hdv, vops, vguard, vread, vdraw, vreadD, pop, ref, ev, cvalue, nonroot, PV.isRoot, setD, List.set, lenOf, binop, intop, reduceCtorEq, capsOf, cOf, look, get, lendCaps, lendAll, lend, lendCap, okRes, isAdr, capPV, List.map, List.any, List.append, mentOk, ments, Op.operands, loaded, Sh.plain, Fl.allfz, grab, upd, hit, V.put, unop, eqop, Fl.good, Fl.sound, Fl.l, Fl.r, Fl.el, fpath, Sh.zero, bound, Path.pre, below, skipPV, dif_pos, Nat.reduceBEq, vb_tt, vb_tf, vb_ft, vb_ff, List.getElem?_toArray, Call.operands, List.filterMap_nil, List.filterMap_cons, Nat.reduceAdd, List.contains_cons, Nat.reduceLT, Nat.reduceLeDiff, Nat.reduceSub, Nat.reduceEqDiff, Fl.wr, hitS, xback, lendX, vmix, pureOp, Fl.nofz, vio, vxgo, vmv, capOut, vs_a, vs_b, vs_c, vfloat, capBelow, Fl.unio, keepZ, nilP, moveTup, bq, tgs, List.getElem?_cons_succ, List.getElem?_cons_zero, Option.bind_some]
    refine hK _ ?_
    clear hK K
    try refine vthen_n ?_
    refine VW.ret ⟨.inl rfl, _, _, _, _, rfl, ⟨0, rfl⟩, m, i, h1, _, rfl, hmb.1, by omega, hi, rfl⟩
/-- a remainder of what is not negative -/
theorem rem_lt {a n : Int} (h : 0 ≤ a) (hn : 1 ≤ n) : 0 ≤ Int.tmod a n ∧ Int.tmod a n < n := by
  rw [Int.tmod_eq_emod_of_nonneg h]
  exact ⟨Int.emod_nonneg _ (by omega), Int.emod_lt_of_pos _ (by omega)⟩
set_option maxRecDepth 20000 in
theorem below_vx (A : Option Addr) (c : Nat) (r : Fl) (b : List Int) (i h : Int) (n : Int) (hi : 0 ≤ i) (hl : b.length ≤ 1048576) (hn : 1 ≤ n) :
    VX Try.prog 101 [.root bC sC (.pr (.kz A c) r) (b, i, h), .v false (.int .i64) (n)] 0 (curR A c b 0 n) := by
  refine VX.of_box hT Try.func101 rfl (by kernel_rfl) [(.tmp 4, false, .int .i64)] (by kernel_rfl) rfl fun bb => ?_
  show VW _ _ ([.root (.ibox 145 bb) sC (.pr (.kz A c) r) (b, i, h), .v false (.int .i64) (n), D, D, D, D, D, D, D, D, D, D, D, D, D, D, D, D, D, D, D, D, D, D, D, D, D, D, D, D, D, D, D, D, D, D, D]) _
  repeat refine VW.seq ?_
  refine VW.regl hT fun K hK => ?_
  simp only [Sh.size, fillRow, fillSt, noH, PV.isH, Fl.sub, PV.isEmp, List.replicate, Nat.reduceMul, emp1, headRow, rowOf, nilTest, V.take, V.drop, usesG, capUses, emp0, hdv, vops, vguard, vread, vdraw, vreadD, pop, ref, ev, cvalue, nonroot, PV.isRoot, setD, List.set, lenOf, binop, intop, reduceCtorEq, capsOf, cOf, look, get, lendCaps, lendAll, lend, lendCap, okRes, isAdr, capPV, List.map, List.any, List.append, mentOk, ments, Op.operands, loaded, Sh.plain, Fl.allfz, grab, upd, hit, V.put, unop, eqop, Fl.good, Fl.sound, Fl.l, Fl.r, Fl.el, fpath, Sh.zero, bound, Path.pre, below, skipPV, dif_pos, Nat.reduceBEq, vb_tt, vb_tf, vb_ft, vb_ff, List.getElem?_toArray, Call.operands, List.filterMap_nil, List.filterMap_cons, Nat.reduceAdd, List.contains_cons, Nat.reduceLT, Nat.reduceLeDiff, Nat.reduceSub, Nat.reduceEqDiff, Fl.wr, hitS, xback, lendX, vmix, pureOp, Fl.nofz, vio, vxgo, vmv, capOut, vs_a, vs_b, vs_c, vfloat, capBelow, Fl.unio, keepZ, nilP, moveTup, bq, tgs, List.getElem?_cons_succ, List.getElem?_cons_zero, Option.bind_some]
  refine hK _ ?_
  clear hK K
  try refine vthen_n ?_
  repeat refine VW.seq ?_
  refine VW.regl hT fun K hK => ?_
  simp only [Sh.size, fillRow, fillSt, noH, PV.isH, Fl.sub, PV.isEmp, List.replicate, Nat.reduceMul, emp1, headRow, rowOf, nilTest, V.take, V.drop, usesG, capUses, emp0, hdv, vops, vguard, vread, vdraw, vreadD, pop, ref, ev, cvalue, nonroot, PV.isRoot, setD, List.set, lenOf, binop, intop, reduceCtorEq, capsOf, cOf, look, get, lendCaps, lendAll, lend, lendCap, okRes, isAdr, capPV, List.map, List.any, List.append, mentOk, ments, Op.operands, loaded, Sh.plain, Fl.allfz, grab, upd, hit, V.put, unop, eqop, Fl.good, Fl.sound, Fl.l, Fl.r, Fl.el, fpath, Sh.zero, bound, Path.pre, below, skipPV, dif_pos, Nat.reduceBEq, vb_tt, vb_tf, vb_ft, vb_ff, List.getElem?_toArray, Call.operands, List.filterMap_nil, List.filterMap_cons, Nat.reduceAdd, List.contains_cons, Nat.reduceLT, Nat.reduceLeDiff, Nat.reduceSub, Nat.reduceEqDiff, Fl.wr, hitS, xback, lendX, vmix, pureOp, Fl.nofz, vio, vxgo, vmv, capOut, vs_a, vs_b, vs_c, vfloat, capBelow, Fl.unio, keepZ, nilP, moveTup, bq, tgs, List.getElem?_cons_succ, List.getElem?_cons_zero, Option.bind_some]
  refine hK _ ?_
  clear hK K
  try refine vthen_n ?_
  repeat refine VW.seq ?_
  refine VW.cond rfl (fun hc => ?_) (fun hc => ?_)
  · have : n ≤ 0 := of_decide_eq_true hc
    omega
  refine VW.skip (vthen_n ?_)
  repeat refine VW.seq ?_
  refine VW.regl hT fun K hK => ?_
  simp only [Sh.size, fillRow, fillSt, noH, PV.isH, Fl.sub, PV.isEmp, List.replicate, Nat.reduceMul, emp1, headRow, rowOf, nilTest, V.take, V.drop, usesG, capUses, emp0, hdv, vops, vguard, vread, vdraw, vreadD, pop, ref, ev, cvalue, nonroot, PV.isRoot, setD, List.set, lenOf, binop, intop, reduceCtorEq, capsOf, cOf, look, get, lendCaps, lendAll, lend, lendCap, okRes, isAdr, capPV, List.map, List.any, List.append, mentOk, ments, Op.operands, loaded, Sh.plain, Fl.allfz, grab, upd, hit, V.put, unop, eqop, Fl.good, Fl.sound, Fl.l, Fl.r, Fl.el, fpath, Sh.zero, bound, Path.pre, below, skipPV, dif_pos, Nat.reduceBEq, vb_tt, vb_tf, vb_ft, vb_ff, List.getElem?_toArray, Call.operands, List.filterMap_nil, List.filterMap_cons, Nat.reduceAdd, List.contains_cons, Nat.reduceLT, Nat.reduceLeDiff, Nat.reduceSub, Nat.reduceEqDiff, Fl.wr, hitS, xback, lendX, vmix, pureOp, Fl.nofz, vio, vxgo, vmv, capOut, vs_a, vs_b, vs_c, vfloat, capBelow, Fl.unio, keepZ, nilP, moveTup, bq, tgs, List.getElem?_cons_succ, List.getElem?_cons_zero, Option.bind_some]
  refine hK _ ?_
  clear hK K
  try refine vthen_n ?_
  repeat refine VW.seq ?_
  refine VW.cond rfl (fun hc => ?_) (fun hc => ?_)
  · repeat refine VW.seq ?_
    refine VW.regl hT fun K hK => ?_
    simp only [Sh.size, fillRow, fillSt, noH, PV.isH, Fl.sub, PV.isEmp, List.replicate, Nat.reduceMul, emp1, headRow, rowOf, nilTest, V.take, V.drop, usesG, capUses, emp0, hdv, vops, vguard, vread, vdraw, vreadD, pop, ref, ev, cvalue, nonroot, PV.isRoot, setD, List.set, lenOf, binop, intop, reduceCtorEq, capsOf, cOf, look, get, lendCaps, lendAll, lend, lendCap, okRes, isAdr, capPV, List.map, List.any, List.append, mentOk, ments, Op.operands, loaded, Sh.plain, Fl.allfz, grab, upd, hit, V.put, unop, eqop, Fl.good, Fl.sound, Fl.l, Fl.r, Fl.el, fpath, Sh.zero, bound, Path.pre, below, skipPV, dif_pos, Nat.reduceBEq, vb_tt, vb_tf, vb_ft, vb_ff, List.getElem?_toArray, Call.operands, List.filterMap_nil, List.filterMap_cons, Nat.reduceAdd, List.contains_cons, Nat.reduceLT, Nat.reduceLeDiff, Nat.reduceSub, Nat.reduceEqDiff, Fl.wr, hitS, xback, lendX, vmix, pureOp, Fl.nofz, vio, vxgo, vmv, capOut, vs_a, vs_b, vs_c, vfloat, capBelow, Fl.unio, keepZ, nilP, moveTup, bq, tgs, List.getElem?_cons_succ, List.getElem?_cons_zero, Option.bind_some]
    refine vcall_io 0 ?_
    simp only [Sh.size, fillRow, fillSt, noH, PV.isH, Fl.sub, PV.isEmp, List.replicate, Nat.reduceMul, emp1, headRow, rowOf, nilTest, V.take, V.drop, usesG, capUses, emp0, hdv, vops, vguard, vread, vdraw, vreadD, pop, ref, ev, cvalue, nonroot, PV.isRoot, setD, List.set, lenOf, binop, intop, reduceCtorEq, capsOf, cOf, look, get, lendCaps, lendAll, lend, lendCap, okRes, isAdr, capPV, List.map, List.any, List.append, mentOk, ments, Op.operands, loaded, Sh.plain, Fl.allfz, grab, upd, hit, V.put, unop, eqop, Fl.good, Fl.sound, Fl.l, Fl.r, Fl.el, fpath, Sh.zero, bound, Path.pre, below, skipPV, dif_pos, Nat.reduceBEq, vb_tt, vb_tf, vb_ft, vb_ff, List.getElem?_toArray, Call.operands, List.filterMap_nil, List.filterMap_cons, Nat.reduceAdd, List.contains_cons, Nat.reduceLT, Nat.reduceLeDiff, Nat.reduceSub, Nat.reduceEqDiff, Fl.wr, hitS, xback, lendX, vmix, pureOp, Fl.nofz, vio, vxgo, vmv, capOut, vs_a, vs_b, vs_c, vfloat, capBelow, Fl.unio, keepZ, nilP, moveTup, bq, tgs, List.getElem?_cons_succ, List.getElem?_cons_zero, Option.bind_some]
    refine vxcall_ex (byte_vx A c r b i h hi hl) ?_
    rintro pv ot ⟨m, i', h', r', rfl, hm1, hm2, hi', rfl⟩
    simp only [Sh.size, fillRow, fillSt, noH, PV.isH, Fl.sub, PV.isEmp, List.replicate, Nat.reduceMul, emp1, headRow, rowOf, nilTest, V.take, V.drop, usesG, capUses, emp0, hdv, vops, vguard, vread, vdraw, vreadD, pop, ref, ev, cvalue, nonroot, PV.isRoot, setD, List.set, lenOf, binop, intop, reduceCtorEq, capsOf, cOf, look, get, lendCaps, lendAll, lend, lendCap, okRes, isAdr, capPV, List.map, List.any, List.append, mentOk, ments, Op.operands, loaded, Sh.plain, Fl.allfz, grab, upd, hit, V.put, unop, eqop, Fl.good, Fl.sound, Fl.l, Fl.r, Fl.el, fpath, Sh.zero, bound, Path.pre, below, skipPV, dif_pos, Nat.reduceBEq, vb_tt, vb_tf, vb_ft, vb_ff, List.getElem?_toArray, Call.operands, List.filterMap_nil, List.filterMap_cons, Nat.reduceAdd, List.contains_cons, Nat.reduceLT, Nat.reduceLeDiff, Nat.reduceSub, Nat.reduceEqDiff, Fl.wr, hitS, xback, lendX, vmix, pureOp, Fl.nofz, vio, vxgo, vmv, capOut, vs_a, vs_b, vs_c, vfloat, capBelow, Fl.unio, keepZ, nilP, moveTup, bq, tgs, List.getElem?_cons_succ, List.getElem?_cons_zero, Option.bind_some]
    have hr := rem_lt hm1 hn
    refine ⟨by simp; omega, ?_⟩
    refine hK _ ?_
    clear hK K
    try refine vthen_n ?_
    refine VW.ret ⟨.inl rfl, _, _, _, _, rfl, ⟨0, rfl⟩, _, i', h', r', rfl, hr.1, hr.2, hi', rfl⟩
  refine VW.skip (vthen_n ?_)
  repeat refine VW.seq ?_
  refine VW.regl hT fun K hK => ?_
  simp only [Sh.size, fillRow, fillSt, noH, PV.isH, Fl.sub, PV.isEmp, List.replicate, Nat.reduceMul, emp1, headRow, rowOf, nilTest, V.take, V.drop, usesG, capUses, emp0, hdv, vops, vguard, vread, vdraw, vreadD, pop, ref, ev, cvalue, nonroot, PV.isRoot, setD, List.set, lenOf, binop, intop, reduceCtorEq, capsOf, cOf, look, get, lendCaps, lendAll, lend, lendCap, okRes, isAdr, capPV, List.map, List.any, List.append, mentOk, ments, Op.operands, loaded, Sh.plain, Fl.allfz, grab, upd, hit, V.put, unop, eqop, Fl.good, Fl.sound, Fl.l, Fl.r, Fl.el, fpath, Sh.zero, bound, Path.pre, below, skipPV, dif_pos, Nat.reduceBEq, vb_tt, vb_tf, vb_ft, vb_ff, List.getElem?_toArray, Call.operands, List.filterMap_nil, List.filterMap_cons, Nat.reduceAdd, List.contains_cons, Nat.reduceLT, Nat.reduceLeDiff, Nat.reduceSub, Nat.reduceEqDiff, Fl.wr, hitS, xback, lendX, vmix, pureOp, Fl.nofz, vio, vxgo, vmv, capOut, vs_a, vs_b, vs_c, vfloat, capBelow, Fl.unio, keepZ, nilP, moveTup, bq, tgs, List.getElem?_cons_succ, List.getElem?_cons_zero, Option.bind_some]
  refine vcall_io 0 ?_
  simp only [Sh.size, fillRow, fillSt, noH, PV.isH, Fl.sub, PV.isEmp, List.replicate, Nat.reduceMul, emp1, headRow, rowOf, nilTest, V.take, V.drop, usesG, capUses, emp0, hdv, vops, vguard, vread, vdraw, vreadD, pop, ref, ev, cvalue, nonroot, PV.isRoot, setD, List.set, lenOf, binop, intop, reduceCtorEq, capsOf, cOf, look, get, lendCaps, lendAll, lend, lendCap, okRes, isAdr, capPV, List.map, List.any, List.append, mentOk, ments, Op.operands, loaded, Sh.plain, Fl.allfz, grab, upd, hit, V.put, unop, eqop, Fl.good, Fl.sound, Fl.l, Fl.r, Fl.el, fpath, Sh.zero, bound, Path.pre, below, skipPV, dif_pos, Nat.reduceBEq, vb_tt, vb_tf, vb_ft, vb_ff, List.getElem?_toArray, Call.operands, List.filterMap_nil, List.filterMap_cons, Nat.reduceAdd, List.contains_cons, Nat.reduceLT, Nat.reduceLeDiff, Nat.reduceSub, Nat.reduceEqDiff, Fl.wr, hitS, xback, lendX, vmix, pureOp, Fl.nofz, vio, vxgo, vmv, capOut, vs_a, vs_b, vs_c, vfloat, capBelow, Fl.unio, keepZ, nilP, moveTup, bq, tgs, List.getElem?_cons_succ, List.getElem?_cons_zero, Option.bind_some]
  refine vxcall_ex (byte_vx A c r b i h hi hl) ?_
  rintro pv ot ⟨m1, i1, h1, r1, rfl, ha1, hb1, hi1, rfl⟩
  simp only [Sh.size, fillRow, fillSt, noH, PV.isH, Fl.sub, PV.isEmp, List.replicate, Nat.reduceMul, emp1, headRow, rowOf, nilTest, V.take, V.drop, usesG, capUses, emp0, hdv, vops, vguard, vread, vdraw, vreadD, pop, ref, ev, cvalue, nonroot, PV.isRoot, setD, List.set, lenOf, binop, intop, reduceCtorEq, capsOf, cOf, look, get, lendCaps, lendAll, lend, lendCap, okRes, isAdr, capPV, List.map, List.any, List.append, mentOk, ments, Op.operands, loaded, Sh.plain, Fl.allfz, grab, upd, hit, V.put, unop, eqop, Fl.good, Fl.sound, Fl.l, Fl.r, Fl.el, fpath, Sh.zero, bound, Path.pre, below, skipPV, dif_pos, Nat.reduceBEq, vb_tt, vb_tf, vb_ft, vb_ff, List.getElem?_toArray, Call.operands, List.filterMap_nil, List.filterMap_cons, Nat.reduceAdd, List.contains_cons, Nat.reduceLT, Nat.reduceLeDiff, Nat.reduceSub, Nat.reduceEqDiff, Fl.wr, hitS, xback, lendX, vmix, pureOp, Fl.nofz, vio, vxgo, vmv, capOut, vs_a, vs_b, vs_c, vfloat, capBelow, Fl.unio, keepZ, nilP, moveTup, bq, tgs, List.getElem?_cons_succ, List.getElem?_cons_zero, Option.bind_some]
  refine hK _ ?_
  clear hK K
  try refine vthen_n ?_
  repeat refine VW.seq ?_
  refine VW.regl hT fun K hK => ?_
  simp only [Sh.size, fillRow, fillSt, noH, PV.isH, Fl.sub, PV.isEmp, List.replicate, Nat.reduceMul, emp1, headRow, rowOf, nilTest, V.take, V.drop, usesG, capUses, emp0, hdv, vops, vguard, vread, vdraw, vreadD, pop, ref, ev, cvalue, nonroot, PV.isRoot, setD, List.set, lenOf, binop, intop, reduceCtorEq, capsOf, cOf, look, get, lendCaps, lendAll, lend, lendCap, okRes, isAdr, capPV, List.map, List.any, List.append, mentOk, ments, Op.operands, loaded, Sh.plain, Fl.allfz, grab, upd, hit, V.put, unop, eqop, Fl.good, Fl.sound, Fl.l, Fl.r, Fl.el, fpath, Sh.zero, bound, Path.pre, below, skipPV, dif_pos, Nat.reduceBEq, vb_tt, vb_tf, vb_ft, vb_ff, List.getElem?_toArray, Call.operands, List.filterMap_nil, List.filterMap_cons, Nat.reduceAdd, List.contains_cons, Nat.reduceLT, Nat.reduceLeDiff, Nat.reduceSub, Nat.reduceEqDiff, Fl.wr, hitS, xback, lendX, vmix, pureOp, Fl.nofz, vio, vxgo, vmv, capOut, vs_a, vs_b, vs_c, vfloat, capBelow, Fl.unio, keepZ, nilP, moveTup, bq, tgs, List.getElem?_cons_succ, List.getElem?_cons_zero, Option.bind_some]
  refine vcall_io 0 ?_
  simp only [Sh.size, fillRow, fillSt, noH, PV.isH, Fl.sub, PV.isEmp, List.replicate, Nat.reduceMul, emp1, headRow, rowOf, nilTest, V.take, V.drop, usesG, capUses, emp0, hdv, vops, vguard, vread, vdraw, vreadD, pop, ref, ev, cvalue, nonroot, PV.isRoot, setD, List.set, lenOf, binop, intop, reduceCtorEq, capsOf, cOf, look, get, lendCaps, lendAll, lend, lendCap, okRes, isAdr, capPV, List.map, List.any, List.append, mentOk, ments, Op.operands, loaded, Sh.plain, Fl.allfz, grab, upd, hit, V.put, unop, eqop, Fl.good, Fl.sound, Fl.l, Fl.r, Fl.el, fpath, Sh.zero, bound, Path.pre, below, skipPV, dif_pos, Nat.reduceBEq, vb_tt, vb_tf, vb_ft, vb_ff, List.getElem?_toArray, Call.operands, List.filterMap_nil, List.filterMap_cons, Nat.reduceAdd, List.contains_cons, Nat.reduceLT, Nat.reduceLeDiff, Nat.reduceSub, Nat.reduceEqDiff, Fl.wr, hitS, xback, lendX, vmix, pureOp, Fl.nofz, vio, vxgo, vmv, capOut, vs_a, vs_b, vs_c, vfloat, capBelow, Fl.unio, keepZ, nilP, moveTup, bq, tgs, List.getElem?_cons_succ, List.getElem?_cons_zero, Option.bind_some]
  refine vxcall_ex (byte_vx A c r1 b i1 h1 hi1 hl) ?_
  rintro pv ot ⟨m2, i2, h2, r2, rfl, ha2, hb2, hi2, rfl⟩
  simp only [Sh.size, fillRow, fillSt, noH, PV.isH, Fl.sub, PV.isEmp, List.replicate, Nat.reduceMul, emp1, headRow, rowOf, nilTest, V.take, V.drop, usesG, capUses, emp0, hdv, vops, vguard, vread, vdraw, vreadD, pop, ref, ev, cvalue, nonroot, PV.isRoot, setD, List.set, lenOf, binop, intop, reduceCtorEq, capsOf, cOf, look, get, lendCaps, lendAll, lend, lendCap, okRes, isAdr, capPV, List.map, List.any, List.append, mentOk, ments, Op.operands, loaded, Sh.plain, Fl.allfz, grab, upd, hit, V.put, unop, eqop, Fl.good, Fl.sound, Fl.l, Fl.r, Fl.el, fpath, Sh.zero, bound, Path.pre, below, skipPV, dif_pos, Nat.reduceBEq, vb_tt, vb_tf, vb_ft, vb_ff, List.getElem?_toArray, Call.operands, List.filterMap_nil, List.filterMap_cons, Nat.reduceAdd, List.contains_cons, Nat.reduceLT, Nat.reduceLeDiff, Nat.reduceSub, Nat.reduceEqDiff, Fl.wr, hitS, xback, lendX, vmix, pureOp, Fl.nofz, vio, vxgo, vmv, capOut, vs_a, vs_b, vs_c, vfloat, capBelow, Fl.unio, keepZ, nilP, moveTup, bq, tgs, List.getElem?_cons_succ, List.getElem?_cons_zero, Option.bind_some]
  refine hK _ ?_
  clear hK K
  try refine vthen_n ?_
  repeat refine VW.seq ?_
  refine VW.regl hT fun K hK => ?_
  simp only [Sh.size, fillRow, fillSt, noH, PV.isH, Fl.sub, PV.isEmp, List.replicate, Nat.reduceMul, emp1, headRow, rowOf, nilTest, V.take, V.drop, usesG, capUses, emp0, hdv, vops, vguard, vread, vdraw, vreadD, pop, ref, ev, cvalue, nonroot, PV.isRoot, setD, List.set, lenOf, binop, intop, reduceCtorEq, capsOf, cOf, look, get, lendCaps, lendAll, lend, lendCap, okRes, isAdr, capPV, List.map, List.any, List.append, mentOk, ments, Op.operands, loaded, Sh.plain, Fl.allfz, grab, upd, hit, V.put, unop, eqop, Fl.good, Fl.sound, Fl.l, Fl.r, Fl.el, fpath, Sh.zero, bound, Path.pre, below, skipPV, dif_pos, Nat.reduceBEq, vb_tt, vb_tf, vb_ft, vb_ff, List.getElem?_toArray, Call.operands, List.filterMap_nil, List.filterMap_cons, Nat.reduceAdd, List.contains_cons, Nat.reduceLT, Nat.reduceLeDiff, Nat.reduceSub, Nat.reduceEqDiff, Fl.wr, hitS, xback, lendX, vmix, pureOp, Fl.nofz, vio, vxgo, vmv, capOut, vs_a, vs_b, vs_c, vfloat, capBelow, Fl.unio, keepZ, nilP, moveTup, bq, tgs, List.getElem?_cons_succ, List.getElem?_cons_zero, Option.bind_some]
  refine vcall_io 0 ?_
  simp only [Sh.size, fillRow, fillSt, noH, PV.isH, Fl.sub, PV.isEmp, List.replicate, Nat.reduceMul, emp1, headRow, rowOf, nilTest, V.take, V.drop, usesG, capUses, emp0, hdv, vops, vguard, vread, vdraw, vreadD, pop, ref, ev, cvalue, nonroot, PV.isRoot, setD, List.set, lenOf, binop, intop, reduceCtorEq, capsOf, cOf, look, get, lendCaps, lendAll, lend, lendCap, okRes, isAdr, capPV, List.map, List.any, List.append, mentOk, ments, Op.operands, loaded, Sh.plain, Fl.allfz, grab, upd, hit, V.put, unop, eqop, Fl.good, Fl.sound, Fl.l, Fl.r, Fl.el, fpath, Sh.zero, bound, Path.pre, below, skipPV, dif_pos, Nat.reduceBEq, vb_tt, vb_tf, vb_ft, vb_ff, List.getElem?_toArray, Call.operands, List.filterMap_nil, List.filterMap_cons, Nat.reduceAdd, List.contains_cons, Nat.reduceLT, Nat.reduceLeDiff, Nat.reduceSub, Nat.reduceEqDiff, Fl.wr, hitS, xback, lendX, vmix, pureOp, Fl.nofz, vio, vxgo, vmv, capOut, vs_a, vs_b, vs_c, vfloat, capBelow, Fl.unio, keepZ, nilP, moveTup, bq, tgs, List.getElem?_cons_succ, List.getElem?_cons_zero, Option.bind_some]
  refine vxcall_ex (byte_vx A c r2 b i2 h2 hi2 hl) ?_
  rintro pv ot ⟨m3, i3, h3, r3, rfl, ha3, hb3, hi3, rfl⟩
  simp only [Sh.size, fillRow, fillSt, noH, PV.isH, Fl.sub, PV.isEmp, List.replicate, Nat.reduceMul, emp1, headRow, rowOf, nilTest, V.take, V.drop, usesG, capUses, emp0, hdv, vops, vguard, vread, vdraw, vreadD, pop, ref, ev, cvalue, nonroot, PV.isRoot, setD, List.set, lenOf, binop, intop, reduceCtorEq, capsOf, cOf, look, get, lendCaps, lendAll, lend, lendCap, okRes, isAdr, capPV, List.map, List.any, List.append, mentOk, ments, Op.operands, loaded, Sh.plain, Fl.allfz, grab, upd, hit, V.put, unop, eqop, Fl.good, Fl.sound, Fl.l, Fl.r, Fl.el, fpath, Sh.zero, bound, Path.pre, below, skipPV, dif_pos, Nat.reduceBEq, vb_tt, vb_tf, vb_ft, vb_ff, List.getElem?_toArray, Call.operands, List.filterMap_nil, List.filterMap_cons, Nat.reduceAdd, List.contains_cons, Nat.reduceLT, Nat.reduceLeDiff, Nat.reduceSub, Nat.reduceEqDiff, Fl.wr, hitS, xback, lendX, vmix, pureOp, Fl.nofz, vio, vxgo, vmv, capOut, vs_a, vs_b, vs_c, vfloat, capBelow, Fl.unio, keepZ, nilP, moveTup, bq, tgs, List.getElem?_cons_succ, List.getElem?_cons_zero, Option.bind_some]
  refine hK _ ?_
  clear hK K
  try refine vthen_n ?_
  repeat refine VW.seq ?_
  refine VW.regl hT fun K hK => ?_
  simp only [Sh.size, fillRow, fillSt, noH, PV.isH, Fl.sub, PV.isEmp, List.replicate, Nat.reduceMul, emp1, headRow, rowOf, nilTest, V.take, V.drop, usesG, capUses, emp0, hdv, vops, vguard, vread, vdraw, vreadD, pop, ref, ev, cvalue, nonroot, PV.isRoot, setD, List.set, lenOf, binop, intop, reduceCtorEq, capsOf, cOf, look, get, lendCaps, lendAll, lend, lendCap, okRes, isAdr, capPV, List.map, List.any, List.append, mentOk, ments, Op.operands, loaded, Sh.plain, Fl.allfz, grab, upd, hit, V.put, unop, eqop, Fl.good, Fl.sound, Fl.l, Fl.r, Fl.el, fpath, Sh.zero, bound, Path.pre, below, skipPV, dif_pos, Nat.reduceBEq, vb_tt, vb_tf, vb_ft, vb_ff, List.getElem?_toArray, Call.operands, List.filterMap_nil, List.filterMap_cons, Nat.reduceAdd, List.contains_cons, Nat.reduceLT, Nat.reduceLeDiff, Nat.reduceSub, Nat.reduceEqDiff, Fl.wr, hitS, xback, lendX, vmix, pureOp, Fl.nofz, vio, vxgo, vmv, capOut, vs_a, vs_b, vs_c, vfloat, capBelow, Fl.unio, keepZ, nilP, moveTup, bq, tgs, List.getElem?_cons_succ, List.getElem?_cons_zero, Option.bind_some]
  refine vcall_io 0 ?_
  simp only [Sh.size, fillRow, fillSt, noH, PV.isH, Fl.sub, PV.isEmp, List.replicate, Nat.reduceMul, emp1, headRow, rowOf, nilTest, V.take, V.drop, usesG, capUses, emp0, hdv, vops, vguard, vread, vdraw, vreadD, pop, ref, ev, cvalue, nonroot, PV.isRoot, setD, List.set, lenOf, binop, intop, reduceCtorEq, capsOf, cOf, look, get, lendCaps, lendAll, lend, lendCap, okRes, isAdr, capPV, List.map, List.any, List.append, mentOk, ments, Op.operands, loaded, Sh.plain, Fl.allfz, grab, upd, hit, V.put, unop, eqop, Fl.good, Fl.sound, Fl.l, Fl.r, Fl.el, fpath, Sh.zero, bound, Path.pre, below, skipPV, dif_pos, Nat.reduceBEq, vb_tt, vb_tf, vb_ft, vb_ff, List.getElem?_toArray, Call.operands, List.filterMap_nil, List.filterMap_cons, Nat.reduceAdd, List.contains_cons, Nat.reduceLT, Nat.reduceLeDiff, Nat.reduceSub, Nat.reduceEqDiff, Fl.wr, hitS, xback, lendX, vmix, pureOp, Fl.nofz, vio, vxgo, vmv, capOut, vs_a, vs_b, vs_c, vfloat, capBelow, Fl.unio, keepZ, nilP, moveTup, bq, tgs, List.getElem?_cons_succ, List.getElem?_cons_zero, Option.bind_some]
  refine vxcall_ex (byte_vx A c r3 b i3 h3 hi3 hl) ?_
  rintro pv ot ⟨m4, i4, h4, r4, rfl, ha4, hb4, hi4, rfl⟩
  simp only [Sh.size, fillRow, fillSt, noH, PV.isH, Fl.sub, PV.isEmp, List.replicate, Nat.reduceMul, emp1, headRow, rowOf, nilTest, V.take, V.drop, usesG, capUses, emp0, hdv, vops, vguard, vread, vdraw, vreadD, pop, ref, ev, cvalue, nonroot, PV.isRoot, setD, List.set, lenOf, binop, intop, reduceCtorEq, capsOf, cOf, look, get, lendCaps, lendAll, lend, lendCap, okRes, isAdr, capPV, List.map, List.any, List.append, mentOk, ments, Op.operands, loaded, Sh.plain, Fl.allfz, grab, upd, hit, V.put, unop, eqop, Fl.good, Fl.sound, Fl.l, Fl.r, Fl.el, fpath, Sh.zero, bound, Path.pre, below, skipPV, dif_pos, Nat.reduceBEq, vb_tt, vb_tf, vb_ft, vb_ff, List.getElem?_toArray, Call.operands, List.filterMap_nil, List.filterMap_cons, Nat.reduceAdd, List.contains_cons, Nat.reduceLT, Nat.reduceLeDiff, Nat.reduceSub, Nat.reduceEqDiff, Fl.wr, hitS, xback, lendX, vmix, pureOp, Fl.nofz, vio, vxgo, vmv, capOut, vs_a, vs_b, vs_c, vfloat, capBelow, Fl.unio, keepZ, nilP, moveTup, bq, tgs, List.getElem?_cons_succ, List.getElem?_cons_zero, Option.bind_some]
  refine hK _ ?_
  clear hK K
  try refine vthen_n ?_
  repeat refine VW.seq ?_
  refine VW.regl hT fun K hK => ?_
  simp only [Sh.size, fillRow, fillSt, noH, PV.isH, Fl.sub, PV.isEmp, List.replicate, Nat.reduceMul, emp1, headRow, rowOf, nilTest, V.take, V.drop, usesG, capUses, emp0, hdv, vops, vguard, vread, vdraw, vreadD, pop, ref, ev, cvalue, nonroot, PV.isRoot, setD, List.set, lenOf, binop, intop, reduceCtorEq, capsOf, cOf, look, get, lendCaps, lendAll, lend, lendCap, okRes, isAdr, capPV, List.map, List.any, List.append, mentOk, ments, Op.operands, loaded, Sh.plain, Fl.allfz, grab, upd, hit, V.put, unop, eqop, Fl.good, Fl.sound, Fl.l, Fl.r, Fl.el, fpath, Sh.zero, bound, Path.pre, below, skipPV, dif_pos, Nat.reduceBEq, vb_tt, vb_tf, vb_ft, vb_ff, List.getElem?_toArray, Call.operands, List.filterMap_nil, List.filterMap_cons, Nat.reduceAdd, List.contains_cons, Nat.reduceLT, Nat.reduceLeDiff, Nat.reduceSub, Nat.reduceEqDiff, Fl.wr, hitS, xback, lendX, vmix, pureOp, Fl.nofz, vio, vxgo, vmv, capOut, vs_a, vs_b, vs_c, vfloat, capBelow, Fl.unio, keepZ, nilP, moveTup, bq, tgs, List.getElem?_cons_succ, List.getElem?_cons_zero, Option.bind_some]
  have w1 : IntKind.i64.wrap (m1 * 16777216) = m1 * 16777216 := wrap64 (by omega) (by omega)
  have w2 : IntKind.i64.wrap (m2 * 65536) = m2 * 65536 := wrap64 (by omega) (by omega)
  have w3 : IntKind.i64.wrap (m1 * 16777216 + m2 * 65536) = m1 * 16777216 + m2 * 65536 := wrap64 (by omega) (by omega)
  have w4 : IntKind.i64.wrap (m3 * 256) = m3 * 256 := wrap64 (by omega) (by omega)
  have w5 : IntKind.i64.wrap (m1 * 16777216 + m2 * 65536 + m3 * 256) = m1 * 16777216 + m2 * 65536 + m3 * 256 := wrap64 (by omega) (by omega)
  have w6 : IntKind.i64.wrap (m1 * 16777216 + m2 * 65536 + m3 * 256 + m4) = m1 * 16777216 + m2 * 65536 + m3 * 256 + m4 := wrap64 (by omega) (by omega)
  rw [w1, w2, w3, w4, w5, w6]
  refine ⟨by simp; omega, ?_⟩
  have hr := rem_lt (a := m1 * 16777216 + m2 * 65536 + m3 * 256 + m4) (n := n) (by omega) hn
  refine hK _ ?_
  clear hK K
  try refine vthen_n ?_
  refine VW.ret ⟨.inl rfl, _, _, _, _, rfl, ⟨0, rfl⟩, _, i4, h4, r4, rfl, hr.1, hr.2, hi4, rfl⟩
end Go.Proofs.Yteeklekfafedcaa.V.W

/- Texts J3 K4 J4 J6 H3 E7 W2 T1 W3 W4 T2 W10 F0 F1 F2 E1 E4 N6 E3 I1 W5 W6 F3 F4 N2 N7 F5 F6 F7 F8 N1 F9 F10 F11 F12 R1 R2 R3 F13 F14 F15 F16 G1 G2 G3 Y1 F17 F18 F19 N3 N8 N5 G4 G5 F20 N4 F21 N9 F23 N11 N12 C1 E5 N14 C2 N15 N17 N18 M1 M2 M3 M4 M6 M7 M8 C0 C3 N19 K3 K5 J7 W8 W9 W11 D2 U1 in one. No condition. -/
import Derived.Test.YtoeblmcibheldaaDoorZActTexts3
import Derived.Orders
set_option linter.unnecessarySimpa false
set_option linter.unusedSimpArgs false
set_option linter.unusedVariables false
section
namespace Go.Proofs.YtoeblmcibheldaaDoor.V.W
open Go Go.RowKit Go.Proofs.YtoeblmcibheldaaDoor.V
theorem cell_spot {w : World} {a : Addr} {v : Value} (h : w.cell? a = some v) : a.spot = none := by
 unfold World.cell? at h
 split at h
 ·split at h
  ·cases h
  ·rename_i hs
   cases hp : a.spot with
   | none => rfl
   | some n => rw [hp] at hs; simp at hs
 ·cases h
theorem add_flat {b o k : Nat} : (⟨b, o, none⟩ : Addr).add k = ⟨b, o + k, none⟩ := by
 unfold Addr.add
 split <;> simp_all
/-- a frozen row of texts: where it lies -/
theorem strs_at {w : World} {Z : Nat → Prop} {xs : List ByteArray} {v : Value} (h : Rep w Z sSt .fz xs [v] (fun _ => False)) (hp : 0 < xs.length) : ∃ b o c, v = .slice (some ⟨b, o, none⟩) xs.length c ∧ xs.length ≤ c ∧ xs.length ≤ maxLen ∧ Z b ∧ ∀ j x, xs[j]? = some x → w.cell? ⟨b, o + j, none⟩ = some (.string x) := by
 obtain ⟨A, c, m1, q1, q1', q2⟩ := h
 have m1 : v = .slice A xs.length c := by simpa using m1
 obtain ⟨ad, e1, e2, e3⟩ := q2 hp
 have hat : ∀ i, i < xs.length → w.cell? (ad.add i) = some (.string (xs.getD i ByteArray.empty)) := fun i hi => by
  obtain ⟨c', k1, k2, k3⟩ := e3 i hi
  have k2 := k2 0 (by decide)
  have k3 : c' = [.string (xs.getD i ByteArray.empty)] := k3
  rw [k3] at k2
  simpa [Sh.size] using k2
 have hs : ad.spot = none := by
  exact cell_spot (a := ad) (hat 0 hp)
 obtain ⟨b, o, sp⟩ := ad
 have hs : sp = none := hs
 subst hs
 refine ⟨b, o, c, by rw [m1, e1], q1, q1', e2, fun j x hx => ?_⟩
 obtain ⟨hj, rfl⟩ := List.getElem?_eq_some_iff.1 hx
 have := hat j hj
 rw [add_flat] at this
 rw [this, List.getD_eq_getElem?_getD, List.getElem?_eq_getElem hj]
 rfl
theorem one_arg {w : World} {Z : Nat → Prop} {vals : List Value} {s : Sh} {x : s.ty} {i : Nat} {v : Value} {args : List PV} (ha : ∀ (i : Nat) (pv : PV) (v : Value), args[i]? = some pv → vals[i]? = some v → ARep w Z pv v) (h1 : args[i]? = some (.v false s x)) (h2 : vals[i]? = some v) : Rep w Z s .fz x [v] (fun _ => False) := by
 obtain ⟨cs, m1, m2⟩ := (ha i _ _ h1 h2 : ARep w Z (.v false s x) v)
 have m1 : cs = [v] := by simpa [mkV] using m1
 rw [← m1]
 exact m2
theorem below_ext {w w' : World} (hb : Below w.heap.size w w') : Ext w w' := ⟨hb.os, hb.tape, hb.output, hb.size, fun b hb' => hb.block b hb'⟩
theorem join_vc (xs : List ByteArray) (sep : ByteArray) (hN : xs.length ≤ 140737488355328) (hlen : (Lib.join (xs.map (·.data.toList)) sep.data.toList).length ≤ 140737488355328) : VC Tryd.prog 31 [.v false sSt xs, .v false .str sep] (· = .v false .str (bs (Lib.join (xs.map (·.data.toList)) sep.data.toList))) := by
 refine ⟨⟨_, Tryd.func31, by kernel_rfl, by kernel_rfl⟩, fun Z w vals hz hl ha => ?_⟩
 obtain ⟨v, u, rfl⟩ : ∃ v u, vals = [v, u] := by
  match vals, hl with
  | [v, u], _ => exact ⟨v, u, rfl⟩
 have m1 := one_arg ha (i := 0) rfl rfl
 have m2 := one_arg ha (i := 1) rfl rfl
 have m2 : u = .string sep := by simpa [Rep] using m2
 subst m2
 have hc : Calls Tryd.prog 31 #[v, .string sep] w fun e w' => e = .returned (.string ⟨(Lib.join (xs.map (·.data.toList)) sep.data.toList).toArray⟩) ∧ Below w.heap.size w w' := by
  rcases Nat.eq_zero_or_pos xs.length with h0 | hp
  ·obtain rfl := List.eq_nil_of_length_eq_zero h0
   obtain ⟨A, c, q0, _⟩ := m1
   have q0 : v = .slice A 0 c := by simpa using q0
   subst q0
   exact (Tryd.strings_Join_none A c sep w).mono fun e w' ⟨he, hw⟩ => ⟨he, hw ▸ Below.refl _ _⟩
  ·obtain ⟨b, o, c, rfl, q1, q2, q3, q4⟩ := strs_at m1 hp
   exact Tryd.strings_Join b o c xs sep w q4 (hz.lt b q3) hN q1 hlen
 exact hc.mono fun e w' ⟨he, hb⟩ => ⟨_, _, he, below_ext hb, rfl, FRes.same rfl ⟨_, rfl, rfl⟩⟩
theorem sindex_vc (xs : List ByteArray) (x : ByteArray) (hm : xs.length ≤ 9223372036854775807) : VC Tryd.prog 30 [.v false sSt xs, .v false .str x] (· = .v false (.int .i64) (Lib.idxOfS xs x)) := by
 refine ⟨⟨_, Tryd.func30, by kernel_rfl, by kernel_rfl⟩, fun Z w vals hz hl ha => ?_⟩
 obtain ⟨v, u, rfl⟩ : ∃ v u, vals = [v, u] := by
  match vals, hl with
  | [v, u], _ => exact ⟨v, u, rfl⟩
 have m1 := one_arg ha (i := 0) rfl rfl
 have m2 := one_arg ha (i := 1) rfl rfl
 have m2 : u = .string x := by simpa [Rep] using m2
 subst m2
 have hc : Calls Tryd.prog 30 #[v, .string x] w fun e w' => e = .returned (.int .i64 (Lib.idxOfS xs x)) ∧ w' = w := by
  rcases Nat.eq_zero_or_pos xs.length with h0 | hp
  ·obtain rfl := List.eq_nil_of_length_eq_zero h0
   obtain ⟨A, c, q0, _⟩ := m1
   have q0 : v = .slice A 0 c := by simpa using q0
   subst q0
   exact Tryd.slices_Index_string_empty A c x w
  ·obtain ⟨b, o, c, rfl, q1, q2, q3, q4⟩ := strs_at m1 hp
   have := Tryd.slices_Index_string b o xs.length c xs x w (Nat.le_refl _) hm fun j hj => by
    rw [q4 j _ (List.getElem?_eq_getElem hj), List.getD_eq_getElem?_getD, List.getElem?_eq_getElem hj]
    rfl
   rw [List.take_length] at this
   exact this
 exact hc.mono fun e w' ⟨he, hw⟩ => ⟨_, _, he, by subst hw; exact Ext.refl _, rfl, FRes.same rfl ⟨_, rfl, rfl⟩⟩
theorem fields_vc (s : ByteArray) (hs : s.size ≤ 2000000) (ha : ∀ (j : Nat) b, s.data.toList[j]? = some b → b.toNat < 128) : VC Tryd.prog 38 [.v false .str s] (· = .root (.val false) sSt .own ((Lib.fields s.data.toList).map bs)) := by
 refine ⟨⟨_, Tryd.func38, by kernel_rfl, by kernel_rfl⟩, fun Z w vals hz hl hA => ?_⟩
 obtain ⟨v, rfl⟩ : ∃ v, vals = [v] := by
  match vals, hl with
  | [v], _ => exact ⟨v, rfl⟩
 have m1 := one_arg hA (i := 0) rfl rfl
 have m1 : v = .string s := by simpa [Rep] using m1
 subst m1
 obtain ⟨cs, e1, e2⟩ := var_of hz gl_spc (nm := "strings.asciiSpace") (by kernel_rfl)
 have hfl := fieldsGo_len s.data.toList []
 have hsz : s.data.toList.length = s.size := by rw [Array.length_toList]; rfl
 refine (Tryd.strings_Fields_laid s w (by omega) ha (by rw [Lib.TabIs, e1, e2])).mono fun e w' ⟨he, hw⟩ => ?_
 subst hw
 generalize hF : Lib.fields s.data.toList = F at *
 have hFl : F.length ≤ s.size + 1 := by rw [← hF, ← hsz]; exact hfl
 generalize hC : (F.map fun l => Value.string ⟨l.toArray⟩).toArray = C at *
 have hat : (w.alloc (.cells C 9)).heap[w.heap.size]? = some (.cells C 9 (0, 0)) := Array.getElem?_push_size
 have hsz2 : (w.alloc (.cells C 9)).heap.size = w.heap.size + 1 := Array.size_push ..
 have hCs : C.size = F.length := by rw [← hC]; simp
 refine ⟨_, _, he, Ext.alloc w _, rfl, Z, .refl, [_], none, (· = w.heap.size), ⟨rfl, fun _ => rfl, rfl⟩, fun b hb => ?_, (fun A hA => by cases hA), ?_⟩
 ·subst hb
  exact ⟨⟨Nat.le_refl _, by omega⟩, fun hZ => by have := hz.lt _ hZ; omega⟩
 ·refine .inr ⟨w.heap.size, F.length, C, fun i => [.string ((F.map bs).getD i ByteArray.empty)], fun _ _ => False, by rw [List.length_map], hat, by rw [List.length_map]; exact Nat.le_refl _, by unfold maxLen; omega, by rw [hCs]; exact (Nat.mul_one _).symm, rfl, fun i hi => ?_, fun _ _ _ _ _ _ h => h.elim⟩
  rw [List.length_map] at hi
  refine ⟨rfl, fun j hj => ?_, fun b hb => hb.elim, rfl⟩
  have hj : j < 1 := hj
  obtain rfl : j = 0 := by omega
  rw [show i * Sh.str.size + 0 = i from Nat.mul_one i, ← hC, List.getElem?_toArray, List.getElem?_map, List.getElem?_eq_getElem hi]
  show some (Value.string ⟨F[i].toArray⟩) = some (Value.string ((F.map bs).getD i ByteArray.empty))
  rw [List.getD_eq_getElem?_getD, List.getElem?_map, List.getElem?_eq_getElem hi]
  rfl
end Go.Proofs.YtoeblmcibheldaaDoor.V.W
end
section
namespace Go.Proofs.YtoeblmcibheldaaDoor.V.W
open Go Go.RowKit
end Go.Proofs.YtoeblmcibheldaaDoor.V.W
end
section
namespace Go.Proofs.YtoeblmcibheldaaDoor.V.W
open Go Go.RowKit Go.Proofs.YtoeblmcibheldaaDoor.V
abbrev rSB (p : List ByteArray × Bool) : PV := .root (.tup [false, false]) (.pr sSt .bool) (.pr .own .fz) p
/-- byte i of a text -/
def byteAt (s : ByteArray) (i : Nat) : UInt8 := s.data.toList.getD i 0
theorem dtl (s : ByteArray) : s.data.toList.length = s.size := by rw [Array.length_toList]; rfl
theorem byte_eq {s : ByteArray} {i : Nat} (h : i < s.size) : (if h : i < s.size then ((s[i]'h).toNat : Int) else 0) = ((byteAt s i).toNat : Int) := by
 rw [dif_pos h, byteAt, List.getD_eq_getElem?_getD, List.getElem?_eq_getElem (by rw [dtl]; exact h)]
 rfl
theorem byte_lt (b : UInt8) : (b.toNat : Int) < 256 := by have := b.toNat_lt; omega
def rangeTo (s : ByteArray) (i : Nat) : Prop := ∀ k, k < i → inR (byteAt s k) = true
theorem range_all {s : ByteArray} (h : rangeTo s s.size) : s.data.toList.all inR = true := by
 rw [List.all_eq_true]
 intro b hb
 obtain ⟨k, hk, rfl⟩ := List.mem_iff_getElem.1 hb
 have := h k (by rw [← dtl]; exact hk)
 rwa [byteAt, List.getD_eq_getElem?_getD, List.getElem?_eq_getElem hk] at this
theorem range_not {s : ByteArray} {i : Nat} (h : i < s.size) (hb : inR (byteAt s i) = false) : s.data.toList.all inR = false := by
 rw [List.all_eq_false]
 refine ⟨_, List.getElem_mem (by rw [dtl]; exact h : i < s.data.toList.length), ?_⟩
 rw [byteAt, List.getD_eq_getElem?_getD, List.getElem?_eq_getElem (by rw [dtl]; exact h)] at hb
 intro hn
 rw [show inR s.data.toList[i] = false from hb] at hn
 cases hn
theorem inR_in (b : UInt8) : inB (b.toNat : Int) 32 126 = inR b := by
 rw [Bool.eq_iff_iff, inB_iff, inR]
 simp
 omega
set_option maxRecDepth 20000 in
set_option maxHeartbeats 1000000 in
theorem splitFields_vc (s : ByteArray) (hs : s.size ≤ 2000000) : VC Tryd.prog 27 [.v false .str s] (· = rSB (splitF s.data.toList)) := by
 refine VC.of_body hT Tryd.func27 rfl (by kernel_rfl) [(.tmp 2, false, sSt), (.tmp 3, false, .bool)] (by kernel_rfl) ?_
 show VW _ _ ([.v false .str s, D, D, D, D, D, D, D, D, D, D, D, D, D, D, D, D, D, D, D, D, D, D, D, D, D, D]) _
 have hno : splitOk s.data.toList = false → splitF s.data.toList = ([], false) := fun h => by rw [splitF, if_neg (by rw [h]; decide)]
 repeat refine VW.seq ?_
 refine VW.regl hT fun K hK => ?_
 simp only [wq, simprocAttr]
 refine hK _ ?_
 clear hK K
 try refine vthen_n ?_
 repeat refine VW.seq ?_
 refine VW.regl hT fun K hK => ?_
 simp only [wq, simprocAttr]
 refine hK _ ?_
 clear hK K
 try refine vthen_n ?_
 repeat refine VW.seq ?_
 refine VW.cond rfl (fun hc => ?_) (fun hc => ?_)
 ·have hc : (s.size : Int) > 600 := of_decide_eq_true hc
  repeat refine VW.seq ?_
  refine VW.regl hT fun K hK => ?_
  simp only [wq, simprocAttr]
  refine hK _ ?_
  clear hK K
  try refine vthen_n ?_
  refine VW.ret ⟨.inl rfl, _, rfl, ?_⟩
  rw [hno (by rw [splitOk, decide_eq_false (by rw [dtl]; omega)]; rfl)]
  rfl
 have h600 : s.size ≤ 600 := by
  have : ¬ (s.size : Int) > 600 := of_decide_eq_false hc
  omega
 refine VW.skip (vthen_n ?_)
 repeat refine VW.seq ?_
 refine VW.regl hT fun K hK => ?_
 simp only [wq, simprocAttr]
 refine hK _ ?_
 clear hK K
 try refine vthen_n ?_
 repeat refine VW.seq ?_
 refine VW.block ?_
 refine VW.loop (α := Nat) [(0, none), (9, none), (10, none), (11, none)] (fun i => [.v false .str s, D, D, D, D, D, D, D, D, .v false .str s, .v false (.int .i64) (s.size), .v false (.int .i64) (i), D, D, D, D, D, D, D, D, D, D, D, D, D, D, D]) (fun i => i ≤ s.size ∧ rangeTo s i) (fun i => s.size - i) ⟨0, ⟨by omega, fun k hk => by omega⟩, ?_⟩ fun i ⟨hi, hr⟩ => ?_
 ·simp only [wn, wq, simprocAttr]
  try rfl
 repeat refine VW.seq ?_
 refine VW.regl hT fun K hK => ?_
 simp only [wq, simprocAttr]
 refine hK _ ?_
 clear hK K
 try refine vthen_n ?_
 repeat refine VW.seq ?_
 refine VW.cond rfl (fun hc => ?_) (fun hc => ?_)
 ·have hlt : i < s.size := by simpa using hc
  refine VW.skip (vthen_n ?_)
  repeat refine VW.seq ?_
  refine VW.block ?_
  repeat refine VW.seq ?_
  refine VW.regl hT fun K hK => ?_
  simp only [wq, simprocAttr]
  refine hK _ ?_
  clear hK K
  try refine vthen_n ?_
  repeat refine VW.seq ?_
  refine VW.regl hT fun K hK => ?_
  simp only [wq, simprocAttr]
  refine ⟨decide_eq_true ⟨Int.natCast_nonneg _, by show (i : Int) < (s.size : Int); omega⟩, ?_⟩
  have hb := byte_lt (byteAt s i)
  have hb0 : 0 ≤ ((byteAt s i).toNat : Int) := Int.natCast_nonneg _
  rw [byte_eq hlt, wrap64 (by omega) (by omega)]
  refine vcall_of (within_vc _ 32 126) ?_
  rw [inR_in]
  simp only [wq, simprocAttr]
  refine hK _ ?_
  clear hK K
  try refine vthen_n ?_
  repeat refine VW.seq ?_
  refine VW.cond rfl (fun hc => ?_) (fun hc => ?_)
  ·have hc : inR (byteAt s i) = false := (Bool.not_eq_true' _).mp hc
   repeat refine VW.seq ?_
   refine VW.regl hT fun K hK => ?_
   simp only [wq, simprocAttr]
   refine hK _ ?_
   clear hK K
   try refine vthen_n ?_
   refine VW.ret ⟨.inl rfl, _, rfl, ?_⟩
   rw [hno (by rw [splitOk, range_not hlt hc]; simp)]
   rfl
  ·have hc : inR (byteAt s i) = true := (Bool.not_eq_false' _).mp hc
   refine VW.skip ?_
   show vthen _ _ _ .normal _
   refine vthen_n ?_
   repeat refine VW.seq ?_
   refine VW.regl hT fun K hK => ?_
   simp only [wq, simprocAttr]
   refine hK _ ?_
   clear hK K
   try refine vthen_n ?_
   refine ⟨i + 1, ⟨hlt, fun k h => ?_⟩, ?_, by show s.size - (i + 1) < s.size - i; omega⟩
   ·rcases Nat.lt_or_ge k i with h1 | h1
    ·exact hr k h1
    ·rw [show k = i by omega]
     exact hc
   simp only [wn, wq, simprocAttr]
   rw [wrap64 (by omega) (by omega)]
   rfl
 ·have hge : s.size ≤ i := by simpa using hc
  obtain rfl : i = s.size := by omega
  have hall := range_all hr
  refine VW.exit ?_
  show vthen _ _ _ .normal _
  refine vthen_n ?_
  repeat refine VW.seq ?_
  refine VW.regl hT fun K hK => ?_
  simp only [wq, simprocAttr]
  refine vcall_of (fields_vc s hs fun j b hb => ?_) ?_
  ·have := List.all_eq_true.1 hall b (List.mem_of_getElem? hb)
   simp [inR] at this
   omega
  simp only [wq, simprocAttr]
  refine hK _ ?_
  clear hK K
  try refine vthen_n ?_
  repeat refine VW.seq ?_
  refine VW.regl hT fun K hK => ?_
  simp only [wq, simprocAttr]
  refine hK _ ?_
  clear hK K
  try refine vthen_n ?_
  have hfl := fieldsGo_len s.data.toList []
  have hfl : (Lib.fields s.data.toList).length ≤ 601 := by
   rw [dtl] at hfl
   exact Nat.le_trans hfl (by omega)
  repeat refine VW.seq ?_
  refine VW.cond rfl (fun hc => ?_) (fun hc => ?_)
  ·have hc : (((Lib.fields s.data.toList).map bs).length : Int) > 24 := of_decide_eq_true hc
   rw [List.length_map] at hc
   repeat refine VW.seq ?_
   refine VW.regl hT fun K hK => ?_
   simp only [wq, simprocAttr]
   refine hK _ ?_
   clear hK K
   try refine vthen_n ?_
   refine VW.ret ⟨.inl rfl, _, rfl, ?_⟩
   rw [hno (by rw [splitOk, decide_eq_false (p := (Lib.fields s.data.toList).length ≤ 24) (by omega)]; simp)]
   rfl
  have hc : ¬ (((Lib.fields s.data.toList).map bs).length : Int) > 24 := of_decide_eq_false hc
  rw [List.length_map] at hc
  refine VW.skip (vthen_n ?_)
  repeat refine VW.seq ?_
  refine VW.regl hT fun K hK => ?_
  simp only [wq, simprocAttr]
  refine hK _ ?_
  clear hK K
  try refine vthen_n ?_
  refine VW.ret ⟨.inl rfl, _, rfl, ?_⟩
  rw [splitF, if_pos (by rw [splitOk, decide_eq_true (by rw [dtl]; omega), hall, decide_eq_true (by omega)]; rfl)]
end Go.Proofs.YtoeblmcibheldaaDoor.V.W
end
section
namespace Go.Proofs.YtoeblmcibheldaaDoor.V.W
open Go Go.RowKit Go.Proofs.YtoeblmcibheldaaDoor.V
theorem bs_toList' (l : List UInt8) : (bs l).toList = l := by rw [ByteArray.toList_eq]; simp [bs]
end Go.Proofs.YtoeblmcibheldaaDoor.V.W
end
section
namespace Go.Proofs.YtoeblmcibheldaaDoor.V
open Go Go.RowKit
section
variable {P : Program} {T : List (Nat × TI)} {st : St} {o : Oper}
/-- an element of an array in a box -/
theorem does_aidx {t e t0 : TypeId} {n g i of : Nat} {y : Operand} {k : IntKind} {sh s1 : Sh} {f : Fl} {x : sh.ty} (ho : o.op = .indexAddr t (.tmp g) y) (hu : P.underlying t = some (.array n e)) (hi0 : (P.info? e).map (·.size) = some 1)
  (hg : st.at g = .root (.box t0) sh f x) (hy : ref st y = .v false (.int k) (i : Int)) (hn : i < n) (hf : fieldAt sh i n = some (of, s1)) (hof : of = i) (hd : nonroot st o.dst = true) : Does P o st (· = setD st o.dst (.adr g (fpath i n))) := by
 refine Does.pure hd rfl fun L a w hr => ?_
 subst hof
 obtain ⟨ti, hi, h1⟩ := Option.map_eq_some_iff.1 hi0
 have hy0 := hr.opnd y
 rw [hy] at hy0
 have hyv := hy0.int
 have hx0 := hr.opnd (.tmp g)
 have href : ref st (.tmp g) = .adr g [] := by simp only [ref, hg]
 rw [href] at hx0
 obtain ⟨s0, cs1, A, q1, q2⟩ := hx0
 have hl : look st g [] = some ⟨sh, f, x⟩ := by
  unfold look
  rw [hg]
  exact get_nil sh f x
 obtain rfl := q1.shape hl
 obtain ⟨k1, ⟨f2, x2, k2⟩, k3, k4, k5⟩ := field_at of n hf f x
 obtain ⟨_, _, B1, _, m4⟩ := hr.place q1 hl
 have hz : ∀ w, (sizeOf e).run P w = .ok 1 w := fun w => by rw [run_size hi, h1]
 refine ⟨.pointer (some (A.add of)), ?_, ⟨s1, (cs1.drop of).take s1.size, A.add of, q1.app hl k1 k2 (k4 w cs1 (some A) m4.len), rfl⟩⟩
 simp [execOp, ho, hyv, q2, Instr.indexAt, Instr.sureAddr, run_underlying hu, asIntOf, hz, hn]
/-- a variable that is an array of texts, as a slice -/
theorem does_gslice {t e : TypeId} {g n : Nat} {words : List ByteArray} (ho : o.op = .slice t (.global g) none none none) (hu : P.underlying t = some (.array n e)) (hi0 : (P.info? e).map (·.size) = some 1) (hg : (g, (· = (words.map Value.string).toArray)) ∈ gls) (hn : words.length = n) (hmax : n ≤ maxLen) (hpos : 0 < n) (hd : nonroot st o.dst = true) : Does P o st (· = setD st o.dst (.v false (.sl e .str) words)) := by
 refine Does.pure hd rfl fun L a w hr => ?_
 obtain ⟨ti, hi, h1⟩ := Option.map_eq_some_iff.1 hi0
 obtain ⟨z, cs', x1, x2, e1, e2⟩ := hr.zlt.gl _ hg
 have e2 : cs' = (words.map Value.string).toArray := e2
 subst e2
 have hz : ∀ w, (sizeOf e).run P w = .ok 1 w := fun w => by rw [run_size hi, h1]
 have hx : a.eval (.global g) = .pointer (some ⟨g, 0, none⟩) := rfl
 refine ⟨.slice (some ⟨g, 0, none⟩) n n, ?_, ⟨[.slice (some ⟨g, 0, none⟩) n n], rfl, ?_⟩⟩
 ·simp [execOp, ho, hx, Instr.sliceAt, Instr.sureAddr, run_underlying hu, Instr.sliceBounds, sliced, hz]
  intro _
  unfold Addr.add
  split <;> simp_all
 ·subst hn
  refine ⟨_, _, rfl, Nat.le_refl _, hmax, fun _ => ⟨⟨g, 0, none⟩, rfl, z, fun i hlt => ⟨[.string (words.getD i ByteArray.empty)], rfl, fun j hj => ?_, rfl⟩⟩⟩
  have hj : j < 1 := hj
  obtain rfl : j = 0 := by omega
  have e1 : w.heap[g]? = some (.cells (words.map Value.string).toArray x1 x2) := e1
  rw [cell_row e1, List.getElem?_toArray, List.getElem?_map, List.getD_eq_getElem?_getD, List.getElem?_eq_getElem (by simp [Sh.size]; exact hlt)]
  simp [Sh.size, hlt]
end
end Go.Proofs.YtoeblmcibheldaaDoor.V
end
section
namespace Go.Proofs.YtoeblmcibheldaaDoor.V
open Go Go.RowKit
section
variable {P : Program} {st : St} {Q : Exit → St → Prop}
theorem FRes.fz {w w' : World} {Z : Nat → Prop} {k : RK} {s : Sh} {f : Fl} {x : s.ty} {v : Value} (hs : Fl.sound s f = true) (hk : ∀ t, k ≠ .box t) (hk2 : ∀ t b, k ≠ .ibox t b) (h : FRes w w' Z (.root k s f x) v) : FRes w w' Z (.root k s .fz x) v := by
 obtain ⟨Z', hz, cs, ad, B, g1, g2, g3, g4⟩ := h
 have had : ad = none := by
  cases k with
  | val agg => exact g1.2.2
  | tup l => exact g1.2.2
  | box t => exact absurd rfl (hk t)
  | ibox t b => exact absurd rfl (hk2 t b)
 subst had
 refine ⟨fun b => Z' b ∨ B b, ⟨fun b hb => .inl (hz.up b hb), fun b hb => hb.elim (hz.nw b) fun q => .inr ⟨.inr (g2 b q).1.1, (g2 b q).1.2⟩⟩, cs, none, fun _ => False, g1, fun b hb => hb.elim, (fun A hA => by cases hA), g4.freeze (fun b hb => .inl hb) hs fun b hb => .inr hb⟩
theorem VC.fzt {f : FuncId} {args : List PV} {l : List Bool} {s : Sh} {fl : Fl} {x : s.ty} (h : VC P f args (· = .root (.tup l) s fl x)) (hs : Fl.sound s fl = true) : VC P f args (· = .root (.tup l) s .fz x) :=
 ⟨h.fn, fun Z w vals h1 h2 h3 => (h.run Z w vals h1 h2 h3).mono fun e w' ⟨v, pv, q1, q2, q3, q4⟩ => by subst q3; exact ⟨v, _, q1, q2, rfl, q4.fz hs (fun t e => by cases e) (fun t b e => by cases e)⟩⟩
end
end Go.Proofs.YtoeblmcibheldaaDoor.V
end
section
namespace Go.Proofs.YtoeblmcibheldaaDoor.V.W
open Go Go.RowKit
def bad1 (t : List Nd) (i : Nat) (n : Nd) : Bool := !inB n.1 0 i || (!((t.getD n.1.toNat z).2.2 == 0) || (!inB n.2.1 0 3 || !inB n.2.2 0 4))
def bad (t : List Nd) (i : Nat) : Bool := bad1 t i (t.getD (i + 1) z) || (t.take (i + 1)).any (same (t.getD (i + 1) z))
def treeOk (t : List Nd) : Bool := inB t.length 1 12 && ((t.getD 0 z == (-1, 0, 0)) && (List.range (t.length - 1)).all fun i => !bad t i)
theorem treeOk_false {t : List Nd} {i : Nat} (hi : i + 1 < t.length) (h : bad t i = true) : treeOk t = false := by
 have : ((List.range (t.length - 1)).all fun i => !bad t i) = false := by
  rw [List.all_eq_false]
  exact ⟨i, List.mem_range.2 (by omega), by simp [h]⟩
 simp only [treeOk, this, Bool.and_false]
theorem treeOk_true {t : List Nd} (h1 : inB t.length 1 12 = true) (h2 : (t.getD 0 z == (-1, 0, 0)) = true) (h : ∀ i, i + 1 < t.length → bad t i = false) : treeOk t = true := by
 have : ((List.range (t.length - 1)).all fun i => !bad t i) = true := by
  rw [List.all_eq_true]
  intro i hi
  rw [h i (by have := List.mem_range.1 hi; omega)]; rfl
 simp only [treeOk, h1, h2, this, Bool.and_self]
theorem eqN (x y : Nd) : eqv sN x y = (x == y) := by
 obtain ⟨a, b, c⟩ := x
 obtain ⟨a', b', c'⟩ := y
 simp only [eqv]
 rw [Bool.eq_iff_iff]
 simp
end Go.Proofs.YtoeblmcibheldaaDoor.V.W
end
section
namespace Go.Proofs.YtoeblmcibheldaaDoor.V.W
open Go Go.RowKit
theorem treeOk_len {t : List Nd} (h : treeOk t = true) : 1 ≤ t.length ∧ t.length ≤ 12 := by
 simp only [treeOk, Bool.and_eq_true] at h
 have := inB_iff.1 h.1
 omega
theorem tree_parts {t : List Nd} (h : treeOk t = true) : inB t.length 1 12 = true ∧ t.getD 0 z = (-1, 0, 0) ∧ ∀ i, i + 1 < t.length → bad t i = false := by
 simp only [treeOk, Bool.and_eq_true] at h
 refine ⟨h.1, by simpa using h.2.1, fun i hi => ?_⟩
 have := List.all_eq_true.1 h.2.2 i (List.mem_range.2 (by omega))
 simpa using this
theorem any_same {t : List Nd} {j : Nat} {n : Nd} (hj : j ≤ t.length) (h : (t.take j).any (same n) = false) {m : Nat} (hm : m < j) : ¬ ((t.getD m z).1 = n.1 ∧ (t.getD m z).2.1 = n.2.1) := by
 intro ⟨h1, h2⟩
 rw [List.any_eq_false] at h
 have hml : m < t.length := by omega
 have : t.getD m z ∈ t.take j := by
  rw [List.getD_eq_getElem?_getD, List.getElem?_eq_getElem hml]
  have : (t.take j)[m]? = some t[m] := by rw [List.getElem?_take_of_lt hm, List.getElem?_eq_getElem hml]
  exact List.mem_of_getElem? this
 refine h _ this ?_
 simp only [same, h1, h2, beq_self_eq_true, Bool.and_self]
theorem tree_node {t : List Nd} (h : treeOk t = true) {j : Nat} (h1 : 1 ≤ j) (h2 : j < t.length) : 0 ≤ (t.getD j z).1 ∧ (t.getD j z).1 < j ∧ (t.getD (t.getD j z).1.toNat z).2.2 = 0 ∧ 0 ≤ (t.getD j z).2.1 ∧ (t.getD j z).2.1 ≤ 3 ∧ ∀ m, m < j → ¬ ((t.getD m z).1 = (t.getD j z).1 ∧ (t.getD m z).2.1 = (t.getD j z).2.1) := by
 obtain ⟨i, rfl⟩ : ∃ i, j = i + 1 := ⟨j - 1, by omega⟩
 have hb := (tree_parts h).2.2 i h2
 simp only [bad, bad1, Bool.or_eq_false_iff, Bool.not_eq_false'] at hb
 obtain ⟨⟨q1, q2, q3, q4⟩, q5⟩ := hb
 have q1 := inB_iff.1 q1
 have q3 := inB_iff.1 q3
 exact ⟨q1.1, by omega, by simpa using q2, q3.1, q3.2, fun m hm => any_same (by omega) q5 hm⟩
theorem par {t : List Nd} (h : treeOk t = true) {j : Nat} (h1 : 1 ≤ j) (h2 : j < t.length) : ∃ p : Nat, (t.getD j z).1 = (p : Int) ∧ p < j := by
 have := tree_node h h1 h2
 exact ⟨(t.getD j z).1.toNat, by omega, by omega⟩
end Go.Proofs.YtoeblmcibheldaaDoor.V.W
end
section
namespace Go.Proofs.YtoeblmcibheldaaDoor.V.W
open Go Go.RowKit
/-- x put into the row P, that lies backwards -/
def ins (c : Int → Int → Int) (x : Int) : List Int → List Int
 | [] => [x]
 | y :: r => if c x y < 0 then y :: ins c x r else x :: y :: r
def pre (c : Int → Int → Int) (xs : List Int) (i : Nat) : List Int := (xs.take i).foldl (fun P x => ins c x P) []
end Go.Proofs.YtoeblmcibheldaaDoor.V.W
end
section
namespace Go.Proofs.YtoeblmcibheldaaDoor.V.W
open Go Go.RowKit
abbrev nil0 : PV := .root (.tup []) .unit .fz ()
end Go.Proofs.YtoeblmcibheldaaDoor.V.W
end
section
namespace Go.Proofs.YtoeblmcibheldaaDoor.V.W
open Go Go.RowKit
/-- the bridge i steps above -/
def anc (t : List Nd) (k : Int) : Nat → Int
 | 0 => k
 | i + 1 => (t.getD (anc t k i).toNat z).1
/-- a node and all above it, from the root on -/
def pathTo (t : List Nd) (k : Int) : List Int := if (treeOk t && inB k 0 (t.length - 1)) = true then (((List.range t.length).map (anc t k)).filter fun x => decide (0 ≤ x)).reverse else []
end Go.Proofs.YtoeblmcibheldaaDoor.V.W
end
section
namespace Go.Proofs.YtoeblmcibheldaaDoor.V.W
open Go Go.RowKit
set_option maxRecDepth 20000 in
theorem specTreeOk_vc (t : List Nd) (hl : t.length ≤ 2000000) : VC Tryd.prog 57 [.v false sNS t] (· = .v false .bool (treeOk t)) := by
 refine VC.of_body hT Tryd.func57 rfl (by kernel_rfl) [(.tmp 2, false, .bool)] (by kernel_rfl) ?_
 show VW _ _ ([.v false sNS t, D, D, D, D, D, D, D, D, D, D, D, D, D, D, D, D, D, D, D, D, D, D, D, D, D, D, D, D, D, D, D, D, D, D, D, D, D, D, D, D, D, D, D, D, D, D, D, D, D, D, D, D, D, D, D, D, D, D, D, D, D, D, D, D, D, D, D, D, D, D, D, D, D, D, D, D]) _
 repeat refine VW.seq ?_
 refine VW.regl hT fun K hK => ?_
 simp only [wq, simprocAttr]
 refine hK _ ?_
 clear hK K
 try refine vthen_n ?_
 repeat refine VW.seq ?_
 refine VW.regl hT fun K hK => ?_
 simp only [wq, simprocAttr]
 refine vcall_of (in_vc _ _ _) ?_
 simp only [wq, simprocAttr]
 refine vbr (fun h1 => ?_) (fun h1 => ?_) <;> simp only [wq, simprocAttr]
 case refine_2 =>
  refine hK _ ?_
  clear hK K
  try refine vthen_n ?_
  repeat refine VW.seq ?_
  refine VW.cond rfl (fun hc => ?_) (fun hc => ?_)
  ·repeat refine VW.seq ?_
   refine VW.regl hT fun K hK => ?_
   simp only [wq, simprocAttr]
   refine hK _ ?_
   clear hK K
   try refine vthen_n ?_
   refine VW.ret ⟨.inl rfl, _, rfl, ?_⟩
   have h1 : inB t.length 1 12 = false := by simpa using h1
   simp only [treeOk, h1, Bool.false_and]
  ·cases hc
 have h1 : inB t.length 1 12 = true := by simpa using h1
 have hlen := inB_iff.1 h1
 refine ⟨by simp; omega, ?_⟩
 refine hK _ ?_
 clear hK K
 try refine vthen_n ?_
 repeat refine VW.seq ?_
 refine VW.cond rfl (fun hc => ?_) (fun hc => ?_)
 ·repeat refine VW.seq ?_
  refine VW.regl hT fun K hK => ?_
  simp only [wq, simprocAttr]
  refine hK _ ?_
  clear hK K
  try refine vthen_n ?_
  refine VW.ret ⟨.inl rfl, _, rfl, ?_⟩
  have hc' : (!eqv sN (t.getD 0 z) (-1, 0, 0)) = true := hc
  rw [eqN] at hc'
  have : (t.getD 0 z == (-1, 0, 0)) = false := by simpa using hc'
  have e : treeOk t = false := by simp only [treeOk, this, Bool.false_and, Bool.and_false]
  rw [e]
 have h2 : (t.getD 0 z == (-1, 0, 0)) = true := by
  have hc' : (!eqv sN (t.getD 0 z) (-1, 0, 0)) = false := hc
  rw [eqN] at hc'
  simpa using hc'
 have h20 : t.getD 0 z = (-1, 0, 0) := by simpa using h2
 refine VW.skip (vthen_n ?_)
 repeat refine VW.seq ?_
 refine VW.regl hT fun K hK => ?_
 simp only [wq, simprocAttr]
 refine hK _ ?_
 clear hK K
 try refine vthen_n ?_
 repeat refine VW.seq ?_
 refine VW.block ?_
 refine VW.loop (α := Nat) [(0, none), (3, none)] (fun i => [.v false sNS t, D, D, .v false (.int .i64) (((i + 1 : Nat) : Int)), D, D, D, D, D, D, D, D, D, D, D, D, D, D, D, D, D, D, D, D, D, D, D, D, D, D, D, D, D, D, D, D, D, D, D, D, D, D, D, D, D, D, D, D, D, D, D, D, D, D, D, D, D, D, D, D, D, D, D, D, D, D, D, D, D, D, D, D, D, D, D, D, D]) (fun i => i + 1 ≤ t.length ∧ ∀ k, k < i → bad t k = false) (fun i => t.length - i) ⟨0, ⟨by omega, fun k hk => by omega⟩, ?_⟩ fun i ⟨hi, hk⟩ => ?_
 ·simp only [wn, wq, simprocAttr]
  try rfl
 repeat refine VW.seq ?_
 refine VW.regl hT fun K hK => ?_
 simp only [wq, simprocAttr]
 refine hK _ ?_
 clear hK K
 try refine vthen_n ?_
 repeat refine VW.seq ?_
 refine VW.cond rfl (fun hc => ?_) (fun hc => ?_)
 ·have hlt : i + 1 < t.length := by
   have : ((i + 1 : Nat) : Int) < (t.length : Int) := by simpa using hc
   omega
  refine VW.skip (vthen_n ?_)
  repeat refine VW.seq ?_
  refine VW.block ?_
  repeat refine VW.seq ?_
  refine VW.regl hT fun K hK => ?_
  simp only [wq, simprocAttr]
  refine ⟨decide_eq_true ⟨Int.natCast_nonneg _, by show ((i + 1 : Nat) : Int) < (t.length : Int); omega⟩, ?_⟩
  refine hK _ ?_
  clear hK K
  try refine vthen_n ?_
  generalize hn : (t.getD (i + 1) z : Nd) = n
  have ex : ∀ b : Bool, bad1 t i n = b → bad t i = (b || (t.take (i + 1)).any (same n)) := by
   intro b hb; unfold bad; rw [hn, hb]
  repeat refine VW.seq ?_
  refine VW.regl hT fun K hK => ?_
  simp only [wq, simprocAttr]
  have hw : IntKind.i64.wrap (((i + 1 : Nat) : Int) - 1) = (i : Int) := by rw [wrap64 (by omega) (by omega)]; omega
  rw [hw]
  refine vcall_of (in_vc _ _ _) ?_
  simp only [wq, simprocAttr]
  refine vbr (fun g1 => ?_) (fun g1 => ?_) <;> simp only [wq, simprocAttr]
  ·have g1' : inB n.1 0 i = true := by simpa using g1
   have gi := inB_iff.1 g1'
   refine ⟨decide_eq_true ⟨gi.1, by show n.1 < (t.length : Int); omega⟩, ?_⟩
   refine vbr (fun g2 => ?_) (fun g2 => ?_) <;> simp only [wq, simprocAttr]
   ·refine vcall_of (in_vc _ _ _) ?_
    simp only [wq, simprocAttr]
    refine vbr (fun g3 => ?_) (fun g3 => ?_) <;> simp only [wq, simprocAttr]
    ·refine vcall_of (in_vc _ _ _) ?_
     simp only [wq, simprocAttr]
     refine hK _ ?_
     clear hK K
     try refine vthen_n ?_
     have b123 : bad1 t i n = !inB n.2.2 0 4 := by
      have g2' : ((t.getD n.1.toNat z).2.2 == 0) = true := by simpa using g2
      have g3' : inB n.2.1 0 3 = true := by simpa using g3
      simp only [bad1, g1', g2', g3', Bool.not_true, Bool.false_or]
     repeat refine VW.seq ?_
     refine VW.cond rfl (fun hc => ?_) (fun hc => ?_)
     ·repeat refine VW.seq ?_
      refine VW.regl hT fun K hK => ?_
      simp only [wq, simprocAttr]
      refine hK _ ?_
      clear hK K
      try refine vthen_n ?_
      refine VW.ret ⟨.inl rfl, _, rfl, ?_⟩
      rw [treeOk_false hlt ((ex true (b123.trans hc)).trans rfl)]
     ·have hb1 : bad1 t i n = false := b123.trans hc
      refine VW.skip ?_
      show vthen _ _ _ .normal _
      refine vthen_n ?_
      repeat refine VW.seq ?_
      refine VW.regl hT fun K hK => ?_
      simp only [wq, simprocAttr]
      refine hK _ ?_
      clear hK K
      try refine vthen_n ?_
      repeat refine VW.seq ?_
      refine VW.block ?_
      refine VW.loop (α := Nat) [(0, none), (3, none), (4, none), (5, none)] (fun j => [.v false sNS t, D, D, .v false (.int .i64) (((i + 1 : Nat) : Int)), .root (.box 86) sN .fz n, .v false (.int .i64) (((j + 1 : Nat) : Int)), D, D, D, D, D, D, D, D, D, D, D, D, D, D, D, D, D, D, D, D, D, D, D, D, D, D, D, D, D, D, D, D, D, D, D, D, D, D, D, D, D, D, D, D, D, D, D, D, D, D, D, D, D, D, D, D, D, D, D, D, D, D, D, D, D, D, D, D, D, D, D]) (fun j => j ≤ i ∧ ∀ k, k < j + 1 → same n (t.getD k z) = false) (fun j => t.length - j) ⟨0, ⟨by omega, fun k hk => ?_⟩, ?_⟩ fun j ⟨hj, hjk⟩ => ?_
      ·obtain rfl : k = 0 := by omega
       rw [h20]
       have : ¬ (-1 : Int) = n.1 := by omega
       simp only [same]
       rw [show ((-1 : Int) == n.1) = false by simpa using this]
       rfl
      ·simp only [wn, wq, simprocAttr]
       try rfl
      repeat refine VW.seq ?_
      refine VW.regl hT fun K hK => ?_
      simp only [wq, simprocAttr]
      refine hK _ ?_
      clear hK K
      try refine vthen_n ?_
      repeat refine VW.seq ?_
      refine VW.cond rfl (fun hc => ?_) (fun hc => ?_)
      ·have hjl : j + 1 < i + 1 := by
        have : ((j + 1 : Nat) : Int) < ((i + 1 : Nat) : Int) := by simpa using hc
        omega
       refine VW.skip (vthen_n ?_)
       repeat refine VW.seq ?_
       refine VW.block ?_
       repeat refine VW.seq ?_
       refine VW.drawl hT hm (by kernel_rfl) fun K hK => ?_
       simp only [wq, simprocAttr]
       have hjx : decide (0 ≤ ((j + 1 : Nat) : Int) ∧ ((j + 1 : Nat) : Int) < (t.length : Int)) = true := decide_eq_true ⟨by omega, by omega⟩
       have hin : t.getD (j + 1) z ∈ t.take (i + 1) := by
        rw [List.getD_eq_getElem?_getD, List.getElem?_eq_getElem (by omega)]
        have : (t.take (i + 1))[j + 1]? = some t[j + 1] := by rw [List.getElem?_take_of_lt (by omega), List.getElem?_eq_getElem (by omega)]
        exact List.mem_of_getElem? this
       refine ⟨hjx, by kernel_rfl, by kernel_rfl, ?_⟩
       refine vbr (fun q1 => ?_) (fun q1 => ?_) <;> simp only [wq, simprocAttr]
       ·refine ⟨hjx, by kernel_rfl, by kernel_rfl, ?_⟩
        refine hK _ ?_
        clear hK K
        try refine vthen_n ?_
        repeat refine VW.seq ?_
        refine VW.cond rfl (fun hc => ?_) (fun hc => ?_)
        ·repeat refine VW.seq ?_
         refine VW.regl hT fun K hK => ?_
         simp only [wq, simprocAttr]
         refine hK _ ?_
         clear hK K
         try refine vthen_n ?_
         refine VW.ret ⟨.inl rfl, _, rfl, ?_⟩
         have q2 : ((t.getD (j + 1) z).2.1 == n.2.1) = true := hc
         have q1' : ((t.getD (j + 1) z).1 == n.1) = true := q1
         have : (t.take (i + 1)).any (same n) = true := by
          rw [List.any_eq_true]
          exact ⟨_, hin, by simp only [same, q1', q2, Bool.and_self]⟩
         rw [treeOk_false hlt ((ex false hb1).trans this)]
        ·refine VW.skip ?_
         show vthen _ _ _ .normal _
         refine vthen_n ?_
         repeat refine VW.seq ?_
         refine VW.regl hT fun K hK => ?_
         simp only [wq, simprocAttr]
         refine hK _ ?_
         clear hK K
         try refine vthen_n ?_
         refine ⟨j + 1, ⟨by omega, fun k hk' => ?_⟩, ?_, by show t.length - (j + 1) < t.length - j; omega⟩
         ·rcases Nat.lt_or_ge k (j + 1) with h3 | h3
          ·exact hjk k h3
          ·obtain rfl : k = j + 1 := by omega
           have q2 : ((t.getD (j + 1) z).2.1 == n.2.1) = false := hc
           simp only [same, q2, Bool.and_false]
         ·simp only [wn, wq, simprocAttr]
          rw [wrap64 (by omega) (by omega)]
          rfl
       ·refine hK _ ?_
        clear hK K
        try refine vthen_n ?_
        repeat refine VW.seq ?_
        refine VW.cond rfl (fun hc => ?_) (fun hc => ?_)
        ·cases hc
        ·refine VW.skip ?_
         show vthen _ _ _ .normal _
         refine vthen_n ?_
         repeat refine VW.seq ?_
         refine VW.regl hT fun K hK => ?_
         simp only [wq, simprocAttr]
         refine hK _ ?_
         clear hK K
         try refine vthen_n ?_
         refine ⟨j + 1, ⟨by omega, fun k hk' => ?_⟩, ?_, by show t.length - (j + 1) < t.length - j; omega⟩
         ·rcases Nat.lt_or_ge k (j + 1) with h3 | h3
          ·exact hjk k h3
          ·obtain rfl : k = j + 1 := by omega
           have q1' : ((t.getD (j + 1) z).1 == n.1) = false := q1
           simp only [same, q1', Bool.false_and]
         ·simp only [wn, wq, simprocAttr]
          rw [wrap64 (by omega) (by omega)]
          rfl
      ·have hje : j = i := by
        have : ¬ ((j + 1 : Nat) : Int) < ((i + 1 : Nat) : Int) := by simpa using hc
        omega
       subst hje
       have hno : (t.take (j + 1)).any (same n) = false := by
        rw [List.any_eq_false]
        intro x hx
        obtain ⟨k, hk1, rfl⟩ := List.mem_iff_getElem.1 hx
        have h3 := hjk k (by rw [List.length_take] at hk1; omega)
        rw [List.getD_eq_getElem?_getD, List.getElem?_eq_getElem (by rw [List.length_take] at hk1; omega)] at h3
        simpa using h3
       refine VW.exit ?_
       show vthen _ _ _ .normal _
       refine vthen_n ?_
       repeat refine VW.seq ?_
       refine VW.regl hT fun K hK => ?_
       simp only [wq, simprocAttr]
       refine hK _ ?_
       clear hK K
       try refine vthen_n ?_
       refine ⟨j + 1, ⟨by omega, fun k h => ?_⟩, ?_, by show t.length - (j + 1) < t.length - j; omega⟩
       ·rcases Nat.lt_or_ge k j with h3 | h3
        ·exact hk k h3
        ·obtain rfl : k = j := by omega
         exact (ex false hb1).trans hno
       ·simp only [wn, wq, simprocAttr]
        rw [wrap64 (by omega) (by omega)]
        rfl
    ·refine hK _ ?_
     clear hK K
     try refine vthen_n ?_
     repeat refine VW.seq ?_
     refine VW.cond rfl (fun hc => ?_) (fun hc => ?_)
     ·repeat refine VW.seq ?_
      refine VW.regl hT fun K hK => ?_
      simp only [wq, simprocAttr]
      refine hK _ ?_
      clear hK K
      try refine vthen_n ?_
      refine VW.ret ⟨.inl rfl, _, rfl, ?_⟩
      have g3' : inB n.2.1 0 3 = false := by simpa using g3
      rw [treeOk_false hlt ((ex true (by simp only [bad1, g3', Bool.not_false, Bool.true_or, Bool.or_true])).trans rfl)]
     ·cases hc
   ·refine hK _ ?_
    clear hK K
    try refine vthen_n ?_
    repeat refine VW.seq ?_
    refine VW.cond rfl (fun hc => ?_) (fun hc => ?_)
    ·repeat refine VW.seq ?_
     refine VW.regl hT fun K hK => ?_
     simp only [wq, simprocAttr]
     refine hK _ ?_
     clear hK K
     try refine vthen_n ?_
     refine VW.ret ⟨.inl rfl, _, rfl, ?_⟩
     have g2' : ((t.getD n.1.toNat z).2.2 == 0) = false := by simpa using g2
     rw [treeOk_false hlt ((ex true (by simp only [bad1, g2', Bool.not_false, Bool.true_or, Bool.or_true])).trans rfl)]
    ·cases hc
  ·refine hK _ ?_
   clear hK K
   try refine vthen_n ?_
   repeat refine VW.seq ?_
   refine VW.cond rfl (fun hc => ?_) (fun hc => ?_)
   ·repeat refine VW.seq ?_
    refine VW.regl hT fun K hK => ?_
    simp only [wq, simprocAttr]
    refine hK _ ?_
    clear hK K
    try refine vthen_n ?_
    refine VW.ret ⟨.inl rfl, _, rfl, ?_⟩
    have g1' : inB n.1 0 i = false := by simpa using g1
    rw [treeOk_false hlt ((ex true (by simp only [bad1, g1', Bool.not_false, Bool.true_or])).trans rfl)]
   ·cases hc
 ·have hge : t.length ≤ i + 1 := by
   have : ¬ ((i + 1 : Nat) : Int) < (t.length : Int) := by simpa using hc
   omega
  refine VW.exit ?_
  show vthen _ _ _ .normal _
  refine vthen_n ?_
  repeat refine VW.seq ?_
  refine VW.regl hT fun K hK => ?_
  simp only [wq, simprocAttr]
  refine hK _ ?_
  clear hK K
  try refine vthen_n ?_
  refine VW.ret ⟨.inl rfl, _, rfl, ?_⟩
  rw [treeOk_true h1 h2 fun k hk' => hk k (by omega)]
end Go.Proofs.YtoeblmcibheldaaDoor.V.W
end
section
namespace Go.Proofs.YtoeblmcibheldaaDoor.V.W
open Go Go.RowKit
/-- the library's counting of ones, step by step -/
def an (x c : Int) : Int := IntKind.u64.wrap (BitVec.ofInt IntKind.u64.bits x &&& BitVec.ofInt IntKind.u64.bits c).toNat
def shr (x : Int) (k : Nat) : Int := x.fdiv (2 ^ min k IntKind.u64.bits)
def ad (x y : Int) : Int := IntKind.u64.wrap (x + y)
/-- a size that is a power of two -/
def pw (n : Int) : Bool := n == 16 || n == 32 || n == 64 || n == 128 || n == 256 || n == 512 || n == 1024 || n == 2048 || n == 4096
end Go.Proofs.YtoeblmcibheldaaDoor.V.W
end
section
namespace Go.Proofs.YtoeblmcibheldaaDoor.V.W
open Go Go.RowKit
theorem pw_in {n : Int} (h : pw n = true) : 16 ≤ n ∧ n ≤ 4096 := by
 simp only [pw, Bool.or_eq_true, beq_iff_eq] at h
 omega
/-- a size that does not fit -/
def sizeBad (t : List Nd) (s : List Int) (k : Nat) : Bool := !(s.getD k 0 == 0) && ((t.getD k z).2.2 == 0 || !pw (s.getD k 0))
def sizesOk (t : List Nd) (s : List Int) : Bool := treeOk t && ((s.length == t.length) && (List.range t.length).all fun k => !sizeBad t s k)
theorem sizesOk_false {t : List Nd} {s : List Int} {k : Nat} (hk : k < t.length) (h : sizeBad t s k = true) : sizesOk t s = false := by
 have : ((List.range t.length).all fun k => !sizeBad t s k) = false := by
  rw [List.all_eq_false]
  exact ⟨k, List.mem_range.2 hk, by rw [h]; simp⟩
 rw [sizesOk, this, Bool.and_false, Bool.and_false]
theorem sizesOk_iff {t : List Nd} {s : List Int} : sizesOk t s = true ↔ treeOk t = true ∧ s.length = t.length ∧ ∀ k, k < t.length → sizeBad t s k = false := by
 unfold sizesOk
 rw [Bool.and_eq_true, Bool.and_eq_true, beq_iff_eq, List.all_eq_true]
 refine and_congr Iff.rfl (and_congr Iff.rfl ⟨fun h k hk => ?_, fun h k hk => ?_⟩)
 ·have := h k (List.mem_range.2 hk)
  simpa using this
 ·rw [h k (List.mem_range.1 hk)]; rfl
theorem lenEq {a b : Nat} : ((a : Int) == (b : Int)) = (a == b) := by
 rw [Bool.eq_iff_iff, beq_iff_eq, beq_iff_eq]; omega
end Go.Proofs.YtoeblmcibheldaaDoor.V.W
end
section
namespace Go.Proofs.YtoeblmcibheldaaDoor.V.W
open Go Go.RowKit
theorem pow_pw : ((List.range 21).all fun i => decide ((2 ^ i : Nat) < 16) || decide ((2 ^ i : Nat) > 4096) || pw ((2 ^ i : Nat) : Int)) = true := by decide
theorem pow_pw' {i : Nat} (hi : i < 21) (h1 : (16 : Int) ≤ ((2 ^ i : Nat) : Int)) (h2 : ((2 ^ i : Nat) : Int) ≤ 4096) : pw ((2 ^ i : Nat) : Int) = true := by
 have := List.all_eq_true.1 pow_pw i (List.mem_range.2 hi)
 rw [decide_eq_false (by omega), decide_eq_false (by omega)] at this
 simpa using this
theorem pw_pow {n : Int} (h : pw n = true) : ∃ i : Nat, i < 21 ∧ n = ((2 ^ i : Nat) : Int) := by
 simp only [pw, Bool.or_eq_true, beq_iff_eq] at h
 rcases h with (((((((h | h) | h) | h) | h) | h) | h) | h) | h
 ·exact ⟨4, by omega, h⟩
 ·exact ⟨5, by omega, h⟩
 ·exact ⟨6, by omega, h⟩
 ·exact ⟨7, by omega, h⟩
 ·exact ⟨8, by omega, h⟩
 ·exact ⟨9, by omega, h⟩
 ·exact ⟨10, by omega, h⟩
 ·exact ⟨11, by omega, h⟩
 ·exact ⟨12, by omega, h⟩
theorem specPower_vc (n : Int) : VC Tryd.prog 84 [.v false (.int .i64) (n)] (fun pv => ∃ b : Bool, pv = .v false .bool (b) ∧ (16 ≤ n → n ≤ 4096 → b = pw n)) := by
 refine VC.of_body hT Tryd.func84 rfl (by kernel_rfl) [(.tmp 2, false, .bool)] (by kernel_rfl) ?_
 show VW _ _ ([.v false (.int .i64) (n), D, D, D, D, D, D, D, D, D, D, D]) _
 repeat refine VW.seq ?_
 refine VW.regl hT fun K hK => ?_
 simp only [wq, simprocAttr]
 refine hK _ ?_
 clear hK K
 try refine vthen_n ?_
 repeat refine VW.seq ?_
 refine VW.regl hT fun K hK => ?_
 simp only [wq, simprocAttr]
 refine hK _ ?_
 clear hK K
 try refine vthen_n ?_
 repeat refine VW.seq ?_
 refine VW.block ?_
 refine VW.loop (α := Nat) [(0, none), (3, none)] (fun i => [.v false (.int .i64) (n), D, D, .v false (.int .i64) (i), D, D, D, D, D, D, D, D]) (fun i => i ≤ 21 ∧ ∀ j, j < i → n ≠ ((2 ^ j : Nat) : Int)) (fun i => 21 - i) ⟨0, ⟨by omega, fun j hj => by omega⟩, ?_⟩ fun i ⟨hi, hj⟩ => ?_
 ·simp only [wn, wq, simprocAttr]
  try rfl
 repeat refine VW.seq ?_
 refine VW.regl hT fun K hK => ?_
 simp only [wq, simprocAttr]
 refine hK _ ?_
 clear hK K
 try refine vthen_n ?_
 repeat refine VW.seq ?_
 refine VW.cond rfl (fun hc => ?_) (fun hc => ?_)
 ·have hlt : i < 21 := by
   have : (i : Int) ≤ 20 := of_decide_eq_true hc
   omega
  refine VW.skip (vthen_n ?_)
  repeat refine VW.seq ?_
  refine VW.block ?_
  repeat refine VW.seq ?_
  refine VW.regl hT fun K hK => ?_
  simp only [wq, simprocAttr]
  have hle : (2 ^ i : Nat) ≤ 2 ^ 20 := Nat.pow_le_pow_right (by decide) (by omega)
  have hw : IntKind.i64.wrap (1 * 2 ^ min i IntKind.i64.bits) = ((2 ^ i : Nat) : Int) := by
   rw [show min i IntKind.i64.bits = i from Nat.min_eq_left (by show i ≤ 64; omega), Int.one_mul, show (2 : Int) ^ i = ((2 ^ i : Nat) : Int) by simp]
   generalize (2 ^ i : Nat) = p at hle ⊢
   exact wrap64 (by omega) (by omega)
  rw [hw]
  refine ⟨decide_eq_true (Int.natCast_nonneg _), ?_⟩
  refine hK _ ?_
  clear hK K
  try refine vthen_n ?_
  repeat refine VW.seq ?_
  refine VW.cond rfl (fun hc => ?_) (fun hc => ?_)
  ·repeat refine VW.seq ?_
   refine VW.regl hT fun K hK => ?_
   simp only [wq, simprocAttr]
   refine hK _ ?_
   clear hK K
   try refine vthen_n ?_
   refine VW.ret ⟨.inl rfl, _, rfl, _, rfl, fun h1 h2 => ?_⟩
   have e : n = ((2 ^ i : Nat) : Int) := by simpa using hc
   show true = pw n
   rw [e] at h1 h2 ⊢
   exact (pow_pw' hlt h1 h2).symm
  ·refine VW.skip ?_
   show vthen _ _ _ .normal _
   refine vthen_n ?_
   repeat refine VW.seq ?_
   refine VW.regl hT fun K hK => ?_
   simp only [wq, simprocAttr]
   refine hK _ ?_
   clear hK K
   try refine vthen_n ?_
   refine ⟨i + 1, ⟨by omega, fun j h => ?_⟩, ?_, by show 21 - (i + 1) < 21 - i; omega⟩
   ·rcases Nat.lt_or_ge j i with h1 | h1
    ·exact hj j h1
    ·obtain rfl : j = i := by omega
     simpa using hc
   ·simp only [wn, wq, simprocAttr]
    rw [wrap64 (by omega) (by omega)]
    rfl
 ·have hge : i = 21 := by
   have : ¬ (i : Int) ≤ 20 := of_decide_eq_false hc
   omega
  refine VW.exit ?_
  show vthen _ _ _ .normal _
  refine vthen_n ?_
  repeat refine VW.seq ?_
  refine VW.regl hT fun K hK => ?_
  simp only [wq, simprocAttr]
  refine hK _ ?_
  clear hK K
  try refine vthen_n ?_
  refine VW.ret ⟨.inl rfl, _, rfl, _, rfl, fun h1 h2 => ?_⟩
  symm
  show pw n = false
  rw [← Bool.not_eq_true]
  intro h
  obtain ⟨j, hj2, hj3⟩ := pw_pow h
  exact hj j (by omega) hj3
set_option maxRecDepth 20000 in
theorem specSizes_vc (t : List Nd) (s : List Int) (hl : t.length ≤ 2000000) (hs : s.length ≤ 2000000) : VC Tryd.prog 71 [.v false sNS t, .v false sI s] (· = .v false .bool (sizesOk t s)) := by
 refine VC.of_body hT Tryd.func71 rfl (by kernel_rfl) [(.tmp 4, false, .bool)] (by kernel_rfl) ?_
 show VW _ _ ([.v false sNS t, .v false sI s, D, D, D, D, D, D, D, D, D, D, D, D, D, D, D, D, D, D, D, D, D, D, D, D, D, D, D, D, D, D, D, D, D, D, D, D, D, D, D, D, D, D, D, D, D, D, D, D, D]) _
 repeat refine VW.seq ?_
 refine VW.regl hT fun K hK => ?_
 simp only [wq, simprocAttr]
 refine hK _ ?_
 clear hK K
 try refine vthen_n ?_
 repeat refine VW.seq ?_
 refine VW.regl hT fun K hK => ?_
 simp only [wq, simprocAttr]
 refine vcall_of (specTreeOk_vc t hl) ?_
 simp only [wq, simprocAttr]
 refine vbr (fun h => ?_) (fun h => ?_) <;> simp only [wq, simprocAttr]
 case refine_2 =>
  refine hK _ ?_
  clear hK K
  try refine vthen_n ?_
  repeat refine VW.seq ?_
  refine VW.cond rfl (fun hc => ?_) (fun hc => ?_)
  ·repeat refine VW.seq ?_
   refine VW.regl hT fun K hK => ?_
   simp only [wq, simprocAttr]
   refine hK _ ?_
   clear hK K
   try refine vthen_n ?_
   refine VW.ret ⟨.inl rfl, _, rfl, ?_⟩
   have h' : treeOk t = false := (Bool.not_eq_true' _).mp h
   rw [sizesOk, h', Bool.false_and]
  ·cases hc
 have hok : treeOk t = true := by
  have := h
  rwa [Bool.not_eq_false'] at this
 have htl := treeOk_len hok
 refine hK _ ?_
 clear hK K
 try refine vthen_n ?_
 rw [lenEq]
 repeat refine VW.seq ?_
 refine VW.cond rfl (fun hc => ?_) (fun hc => ?_)
 ·repeat refine VW.seq ?_
  refine VW.regl hT fun K hK => ?_
  simp only [wq, simprocAttr]
  refine hK _ ?_
  clear hK K
  try refine vthen_n ?_
  refine VW.ret ⟨.inl rfl, _, rfl, ?_⟩
  have h' : (s.length == t.length) = false := (Bool.not_eq_true' _).mp hc
  rw [sizesOk, h', Bool.false_and, Bool.and_false]
 have hsl : s.length = t.length := by simpa using hc
 refine VW.skip (vthen_n ?_)
 repeat refine VW.seq ?_
 refine VW.regl hT fun K hK => ?_
 simp only [wq, simprocAttr]
 refine hK _ ?_
 clear hK K
 try refine vthen_n ?_
 repeat refine VW.seq ?_
 refine VW.block ?_
 refine VW.loop (α := Nat) [(0, none), (1, none), (5, none)] (fun i => [.v false sNS t, .v false sI s, D, D, D, .v false (.int .i64) (i), D, D, D, D, D, D, D, D, D, D, D, D, D, D, D, D, D, D, D, D, D, D, D, D, D, D, D, D, D, D, D, D, D, D, D, D, D, D, D, D, D, D, D, D, D]) (fun i => i ≤ t.length ∧ ∀ k, k < i → sizeBad t s k = false) (fun i => t.length - i) ⟨0, ⟨by omega, fun k hk => by omega⟩, ?_⟩ fun i ⟨hi, hk⟩ => ?_
 ·simp only [wn, wq, simprocAttr]
  try rfl
 repeat refine VW.seq ?_
 refine VW.regl hT fun K hK => ?_
 simp only [wq, simprocAttr]
 refine hK _ ?_
 clear hK K
 try refine vthen_n ?_
 repeat refine VW.seq ?_
 refine VW.cond rfl (fun hc => ?_) (fun hc => ?_)
 ·have hlt : i < t.length := by simpa using hc
  have hi1 : decide (0 ≤ (i : Int) ∧ (i : Int) < (s.length : Int)) = true := decide_eq_true ⟨Int.natCast_nonneg _, by omega⟩
  have hi2 : decide (0 ≤ (i : Int) ∧ (i : Int) < (t.length : Int)) = true := decide_eq_true ⟨Int.natCast_nonneg _, by omega⟩
  refine VW.skip (vthen_n ?_)
  repeat refine VW.seq ?_
  refine VW.block ?_
  apply cutl
  ·intro tail
   repeat refine VW.seq ?_
   refine VW.regl hT fun K hK => ?_
   simp only [wq, simprocAttr]
   refine ⟨hi1, ?_⟩
   refine vbr (fun g => ?_) (fun g => ?_) <;> simp only [wq, simprocAttr]
   case refine_2 =>
    refine hK _ ?_
    try refine vthen_n ?_
    refine VW.cond rfl (fun hc => by cases hc) (fun hc => ?_)
    refine VW.skip ?_
    show vthen _ _ _ .normal _
    refine vthen_n ?_
    refine VW.weak (weak_norm [(0, none), (1, none), (5, none)] _) ?_
    simp only [wn, wq, simprocAttr]
    have hb : sizeBad t s i = false := by
     have g2 : (!(s.getD i 0 == 0)) = false := g
     rw [sizeBad, g2, Bool.false_and]
    revert hb
    exact tail.h
   have g2 : (!(s.getD i 0 == 0)) = true := g
   have bad : ((t.getD i z).2.2 == 0 || !pw (s.getD i 0)) = true → sizesOk t s = false := fun h => sizesOk_false (k := i) (by omega) (by rw [sizeBad, g2, h]; rfl)
   refine ⟨hi2, ?_⟩
   refine vbr (fun g3 => ?_) (fun g3 => ?_) <;> simp only [wq, simprocAttr]
   case refine_2 =>
    refine hK _ ?_
    try refine vthen_n ?_
    refine VW.cond rfl (fun hc => ?_) (fun hc => by cases hc)
    repeat refine VW.seq ?_
    refine VW.regl hT fun K hK => ?_
    simp only [wq, simprocAttr]
    refine hK _ ?_
    clear hK K
    try refine vthen_n ?_
    refine VW.ret ⟨.inl rfl, _, rfl, ?_⟩
    rw [bad (by rw [show ((t.getD i z).2.2 == 0) = true from g3]; rfl)]
   have g3 : ((t.getD i z).2.2 == 0) = false := g3
   refine ⟨hi1, ?_⟩
   refine vcall_ex (specPower_vc _) ?_
   rintro pv ⟨b, rfl, hb⟩
   simp only [wq, simprocAttr]
   refine vbr (fun g4 => ?_) (fun g4 => ?_) <;> simp only [wq, simprocAttr]
   case refine_2 =>
    refine hK _ ?_
    try refine vthen_n ?_
    refine VW.cond rfl (fun hc => ?_) (fun hc => by cases hc)
    repeat refine VW.seq ?_
    refine VW.regl hT fun K hK => ?_
    simp only [wq, simprocAttr]
    refine hK _ ?_
    clear hK K
    try refine vthen_n ?_
    refine VW.ret ⟨.inl rfl, _, rfl, ?_⟩
    have g4 : b = false := by simpa using g4
    have : pw (s.getD i 0) = false := by
     rw [← Bool.not_eq_true]
     intro h
     have h2 := pw_in h
     have h3 := hb h2.1 h2.2
     rw [g4] at h3
     rw [show pw (s.getD i 0) = false from h3.symm] at h
     cases h
    rw [bad (by rw [this]; simp)]
   have g4 : b = true := by simpa using g4
   refine ⟨hi1, ?_⟩
   refine vcall_of (in_vc _ 16 4096) ?_
   simp only [wq, simprocAttr]
   refine hK _ ?_
   try refine vthen_n ?_
   refine VW.cond rfl (fun hc => ?_) (fun hc => ?_)
   ·repeat refine VW.seq ?_
    refine VW.regl hT fun K hK => ?_
    simp only [wq, simprocAttr]
    refine hK _ ?_
    clear hK K
    try refine vthen_n ?_
    refine VW.ret ⟨.inl rfl, _, rfl, ?_⟩
    have hc : inB (s.getD i 0) 16 4096 = false := (Bool.not_eq_true' _).mp hc
    have : pw (s.getD i 0) = false := by
     rw [← Bool.not_eq_true]
     intro h
     rw [inB_iff.2 (pw_in h)] at hc
     cases hc
    rw [bad (by rw [this]; simp)]
   ·refine VW.skip ?_
    show vthen _ _ _ .normal _
    refine vthen_n ?_
    refine VW.weak (weak_norm [(0, none), (1, none), (5, none)] _) ?_
    simp only [wn, wq, simprocAttr]
    have hb : sizeBad t s i = false := by
     have hc : inB (s.getD i 0) 16 4096 = true := by
      have := hc
      rwa [Bool.not_eq_false'] at this
     have h2 := inB_iff.1 hc
     have h3 := hb h2.1 h2.2
     rw [g4] at h3
     rw [sizeBad, g3, show pw (s.getD i 0) = true from h3.symm]
     simp
    revert hb
    exact tail.h
  ·intro hb
   repeat refine VW.seq ?_
   refine VW.regl hT fun K hK => ?_
   simp only [wq, simprocAttr]
   refine hK _ ?_
   clear hK K
   try refine vthen_n ?_
   refine ⟨i + 1, ⟨hlt, fun k h => ?_⟩, ?_, by show t.length - (i + 1) < t.length - i; omega⟩
   ·rcases Nat.lt_or_ge k i with h1 | h1
    ·exact hk k h1
    ·obtain rfl : k = i := by omega
     exact hb
   ·simp only [wn, wq, simprocAttr]
    rw [wrap64 (by omega) (by omega)]
    rfl
 ·have hge : t.length ≤ i := by simpa using hc
  refine VW.exit ?_
  show vthen _ _ _ .normal _
  refine vthen_n ?_
  repeat refine VW.seq ?_
  refine VW.regl hT fun K hK => ?_
  simp only [wq, simprocAttr]
  refine hK _ ?_
  clear hK K
  try refine vthen_n ?_
  refine VW.ret ⟨.inl rfl, _, rfl, ?_⟩
  rw [sizesOk_iff.2 ⟨hok, hsl, fun k hk' => hk k (by omega)⟩]
theorem specNode_vc (t : List Nd) (k : Int) (hl : t.length ≤ 2000000) : VC Tryd.prog 93 [.v false sNS t, .v false (.int .i64) (k)] (· = .v false .bool (treeOk t && inB k 0 (t.length - 1))) := by
 refine VC.of_body hT Tryd.func93 rfl (by kernel_rfl) [(.tmp 4, false, .bool)] (by kernel_rfl) ?_
 show VW _ _ ([.v false sNS t, .v false (.int .i64) (k), D, D, D, D, D, D, D, D, D, D, D, D]) _
 repeat refine VW.seq ?_
 refine VW.regl hT fun K hK => ?_
 simp only [wq, simprocAttr]
 refine hK _ ?_
 clear hK K
 try refine vthen_n ?_
 repeat refine VW.seq ?_
 refine VW.regl hT fun K hK => ?_
 simp only [wq, simprocAttr]
 refine vcall_of (specTreeOk_vc t hl) ?_
 simp only [wq, simprocAttr]
 refine vbr (fun h => ?_) (fun h => ?_) <;> simp only [wq, simprocAttr]
 ·rw [wrap64 (by omega) (by omega)]
  refine vcall_of (in_vc k 0 (t.length - 1)) ?_
  simp only [wq, simprocAttr]
  refine hK _ ?_
  clear hK K
  try refine vthen_n ?_
  refine VW.ret ⟨.inl rfl, _, rfl, ?_⟩
  simp only [h, Bool.true_and]
 ·refine hK _ ?_
  clear hK K
  try refine vthen_n ?_
  refine VW.ret ⟨.inl rfl, _, rfl, ?_⟩
  simp only [h, Bool.not_true, Bool.false_and]
/-- the nodes below k with device d among the first i -/
def kidsD (t : List Nd) (k : Int) (d i : Nat) : List Int := ((List.range i).filter fun j : Nat => decide (1 ≤ j) && ((t.getD j z).1 == k && (t.getD j z).2.1 == (d : Int))).map fun j : Nat => (j : Int)
theorem kidsD_succ (t : List Nd) (k : Int) (d i : Nat) : kidsD t k d (i + 1) = kidsD t k d i ++ (if (decide (1 ≤ i) && ((t.getD i z).1 == k && (t.getD i z).2.1 == (d : Int))) = true then [(i : Int)] else []) := by
 unfold kidsD
 rw [List.range_succ, List.filter_append, List.map_append]
 congr 1
 simp only [List.filter_cons, List.filter_nil]
 split <;> rfl
theorem kidsD_len (t : List Nd) (k : Int) (d i : Nat) : (kidsD t k d i).length ≤ i := by
 unfold kidsD
 rw [List.length_map]
 refine Nat.le_trans (List.length_filter_le _ _) ?_
 simp
def kidsTo (t : List Nd) (k : Int) (d : Nat) : List Int := (List.range d).flatMap fun d => kidsD t k d t.length
theorem kidsTo_succ (t : List Nd) (k : Int) (d : Nat) : kidsTo t k (d + 1) = kidsTo t k d ++ kidsD t k d t.length := by
 unfold kidsTo
 rw [List.range_succ, List.flatMap_append]
 simp
theorem kidsTo_len (t : List Nd) (k : Int) : ∀ d, (kidsTo t k d).length ≤ d * t.length
 | 0 => by simp [kidsTo]
 | d + 1 => by
  rw [kidsTo_succ, List.length_append, Nat.succ_mul]
  have := kidsTo_len t k d
  have := kidsD_len t k d t.length
  omega
def skids (t : List Nd) (k : Int) : List Int := if (treeOk t && inB k 0 (t.length - 1)) = true then kidsTo t k 4 else []
set_option maxRecDepth 20000 in
theorem specChildren_vc (t : List Nd) (k : Int) (hl : t.length ≤ 2000000) : VC Tryd.prog 85 [.v false sNS t, .v false (.int .i64) (k)] (· = .root (.val false) sI .own (skids t k)) := by
 refine VC.of_body hT Tryd.func85 rfl (by kernel_rfl) [(.tmp 4, false, sI)] (by kernel_rfl) ?_
 show VW _ _ ([.v false sNS t, .v false (.int .i64) (k), D, D, D, D, D, D, D, D, D, D, D, D, D, D, D, D, D, D, D, D, D, D, D, D, D, D, D, D, D, D, D, D, D, D, D, D, D, D, D, D, D, D, D]) _
 repeat refine VW.seq ?_
 refine VW.regl hT fun K hK => ?_
 simp only [wq, simprocAttr]
 refine hK _ ?_
 clear hK K
 try refine vthen_n ?_
 repeat refine VW.seq ?_
 refine VW.regl hT fun K hK => ?_
 simp only [wq, simprocAttr]
 refine hK _ ?_
 clear hK K
 try refine vthen_n ?_
 repeat refine VW.seq ?_
 refine VW.regl hT fun K hK => ?_
 simp only [wq, simprocAttr]
 refine vcall_of (specNode_vc t k hl) ?_
 simp only [wq, simprocAttr]
 refine hK _ ?_
 clear hK K
 try refine vthen_n ?_
 repeat refine VW.seq ?_
 refine VW.cond rfl (fun hc => ?_) (fun hc => ?_)
 ·repeat refine VW.seq ?_
  refine VW.regl hT fun K hK => ?_
  simp only [wq, simprocAttr]
  refine hK _ ?_
  clear hK K
  try refine vthen_n ?_
  refine VW.ret ⟨.inl rfl, _, rfl, ?_⟩
  have h' : (treeOk t && inB k 0 (t.length - 1)) = false := (Bool.not_eq_true' _).mp hc
  rw [skids, h']
  try rfl
 have hok : (treeOk t && inB k 0 (t.length - 1)) = true := by
  have := hc
  rwa [Bool.not_eq_false'] at this
 have htl : 1 ≤ t.length ∧ t.length ≤ 12 := by
  simp only [Bool.and_eq_true] at hok
  exact treeOk_len hok.1
 refine VW.skip (vthen_n ?_)
 repeat refine VW.seq ?_
 refine VW.regl hT fun K hK => ?_
 simp only [wq, simprocAttr]
 refine hK _ ?_
 clear hK K
 try refine vthen_n ?_
 repeat refine VW.seq ?_
 refine VW.block ?_
 refine VW.loop (α := Nat) [(0, none), (1, none), (5, some (3, .int .i64)), (6, none)] (fun d => [.v false sNS t, .v false (.int .i64) (k), D, D, D, .root (.val false) sI .own (kidsTo t k d), .v false (.int .i64) (d), D, D, D, D, D, D, D, D, D, D, D, D, D, D, D, D, D, D, D, D, D, D, D, D, D, D, D, D, D, D, D, D, D, D, D, D, D, D]) (fun d => d ≤ 4) (fun d => 4 - d) ⟨0, by omega, ?_⟩ fun d hd => ?_
 ·simp only [wn, wq, simprocAttr]
  try rfl
 repeat refine VW.seq ?_
 refine VW.regl hT fun K hK => ?_
 simp only [wq, simprocAttr]
 refine hK _ ?_
 clear hK K
 try refine vthen_n ?_
 repeat refine VW.seq ?_
 refine VW.cond rfl (fun hc => ?_) (fun hc => ?_)
 ·have hlt : d < 4 := by
   have : (d : Int) ≤ 3 := of_decide_eq_true hc
   omega
  have hkt := kidsTo_len t k d
  have hmul : d * t.length ≤ 4 * 12 := Nat.mul_le_mul (by omega) (by omega)
  refine VW.skip (vthen_n ?_)
  repeat refine VW.seq ?_
  refine VW.block ?_
  repeat refine VW.seq ?_
  refine VW.regl hT fun K hK => ?_
  simp only [wq, simprocAttr]
  refine hK _ ?_
  clear hK K
  try refine vthen_n ?_
  repeat refine VW.seq ?_
  refine VW.block ?_
  refine VW.loop (α := Nat) [(0, none), (1, none), (5, some (3, .int .i64)), (6, none), (7, none)] (fun i => [.v false sNS t, .v false (.int .i64) (k), D, D, D, .root (.val false) sI .own (kidsTo t k d ++ kidsD t k d i), .v false (.int .i64) (d), .v false (.int .i64) (i), D, D, D, D, D, D, D, D, D, D, D, D, D, D, D, D, D, D, D, D, D, D, D, D, D, D, D, D, D, D, D, D, D, D, D, D, D]) (fun i => 1 ≤ i ∧ i ≤ t.length) (fun i => t.length - i) ⟨1, ⟨by omega, by omega⟩, ?_⟩ fun i ⟨hi1, hi⟩ => ?_
  ·simp only [wn, wq, simprocAttr]
   rw [show kidsD t k d 1 = [] from rfl, List.append_nil]
   try rfl
  have hkd := kidsD_len t k d i
  repeat refine VW.seq ?_
  refine VW.regl hT fun K hK => ?_
  simp only [wq, simprocAttr]
  refine hK _ ?_
  clear hK K
  try refine vthen_n ?_
  repeat refine VW.seq ?_
  refine VW.cond rfl (fun hc => ?_) (fun hc => ?_)
  ·have hlti : i < t.length := by simpa using hc
   have hi2 : decide (0 ≤ (i : Int) ∧ (i : Int) < (t.length : Int)) = true := decide_eq_true ⟨Int.natCast_nonneg _, by omega⟩
   have hd1 : decide (1 ≤ i) = true := decide_eq_true hi1
   refine VW.skip (vthen_n ?_)
   repeat refine VW.seq ?_
   refine VW.block ?_
   apply cutl
   ·intro tail
    repeat refine VW.seq ?_
    refine VW.regl hT fun K hK => ?_
    simp only [wq, simprocAttr]
    refine ⟨hi2, ?_⟩
    refine vbr (fun g => ?_) (fun g => ?_) <;> simp only [wq, simprocAttr]
    case refine_2 =>
     refine hK _ ?_
     try refine vthen_n ?_
     refine VW.cond rfl (fun hc => by cases hc) (fun hc => ?_)
     refine VW.skip ?_
     show vthen _ _ _ .normal _
     refine vthen_n ?_
     refine VW.weak (weak_norm [(0, none), (1, none), (5, none), (6, none), (7, none)] _) ?_
     simp only [wn, wq, simprocAttr]
     have e : kidsTo t k d ++ kidsD t k d i = kidsTo t k d ++ kidsD t k d (i + 1) := by
      rw [kidsD_succ, show ((t.getD i z).1 == k) = false from g]
      simp
     rw [e]
     exact tail.h
    refine ⟨hi2, ?_⟩
    refine hK _ ?_
    try refine vthen_n ?_
    refine VW.cond rfl (fun hc => ?_) (fun hc => ?_)
    ·repeat refine VW.seq ?_
     refine VW.regl hT fun K hK => ?_
     simp only [wq, simprocAttr]
     refine ⟨by simp [limOk]; omega, ?_⟩
     refine hK _ ?_
     try refine vthen_n ?_
     show vthen _ _ _ .normal _
     refine vthen_n ?_
     refine VW.weak (weak_norm [(0, none), (1, none), (5, none), (6, none), (7, none)] _) ?_
     simp only [wn, wq, simprocAttr]
     have e : kidsTo t k d ++ kidsD t k d i ++ [(i : Int)] = kidsTo t k d ++ kidsD t k d (i + 1) := by
      rw [kidsD_succ, hd1, show ((t.getD i z).1 == k) = true from g, show ((t.getD i z).2.1 == (d : Int)) = true from hc]
      simp
     rw [e]
     exact tail.h
    ·refine VW.skip ?_
     show vthen _ _ _ .normal _
     refine vthen_n ?_
     refine VW.weak (weak_norm [(0, none), (1, none), (5, none), (6, none), (7, none)] _) ?_
     simp only [wn, wq, simprocAttr]
     have e : kidsTo t k d ++ kidsD t k d i = kidsTo t k d ++ kidsD t k d (i + 1) := by
      rw [kidsD_succ, show ((t.getD i z).2.1 == (d : Int)) = false from hc]
      simp
     rw [e]
     exact tail.h
   ·repeat refine VW.seq ?_
    refine VW.regl hT fun K hK => ?_
    simp only [wq, simprocAttr]
    refine hK _ ?_
    clear hK K
    try refine vthen_n ?_
    refine ⟨i + 1, ⟨by omega, by omega⟩, ?_, by show t.length - (i + 1) < t.length - i; omega⟩
    simp only [wn, wq, simprocAttr]
    rw [wrap64 (by omega) (by omega)]
    try rfl
  ·have hge : i = t.length := by
    have : t.length ≤ i := by simpa using hc
    omega
   subst hge
   refine VW.exit ?_
   show vthen _ _ _ .normal _
   refine vthen_n ?_
   repeat refine VW.seq ?_
   refine VW.regl hT fun K hK => ?_
   simp only [wq, simprocAttr]
   refine hK _ ?_
   clear hK K
   try refine vthen_n ?_
   refine ⟨d + 1, by omega, ?_, by show 4 - (d + 1) < 4 - d; omega⟩
   simp only [wn, wq, simprocAttr]
   rw [wrap64 (by omega) (by omega), kidsTo_succ]
   try rfl
 ·have hge : d = 4 := by
   have : ¬ (d : Int) ≤ 3 := of_decide_eq_false hc
   omega
  subst hge
  refine VW.exit ?_
  show vthen _ _ _ .normal _
  refine vthen_n ?_
  repeat refine VW.seq ?_
  refine VW.regl hT fun K hK => ?_
  simp only [wq, simprocAttr]
  refine hK _ ?_
  clear hK K
  try refine vthen_n ?_
  refine VW.ret ⟨.inl rfl, _, rfl, ?_⟩
  rw [skids, if_pos hok]
end Go.Proofs.YtoeblmcibheldaaDoor.V.W
end
section
namespace Go.Proofs.YtoeblmcibheldaaDoor.V
open Go Go.RowKit
section
variable {P : Program} {T : List (Nat × TI)} {o : Oper} {st st1 st2 : St}
variable {ops : Array Oper}
end
end Go.Proofs.YtoeblmcibheldaaDoor.V
end
section
namespace Go.Proofs.YtoeblmcibheldaaDoor.V
open Go Go.RowKit
section
variable {L : Lay} {st : St} {a : Act} {w : World} {R : Nat → Prop}
variable {P : Program} {T : List (Nat × TI)} {o : Oper} {K : St → Prop}
end
end Go.Proofs.YtoeblmcibheldaaDoor.V
end
section
namespace Go.Proofs.YtoeblmcibheldaaDoor.V.W
open Go Go.RowKit
end Go.Proofs.YtoeblmcibheldaaDoor.V.W
end
section
namespace Go.Proofs.YtoeblmcibheldaaDoor.V
open Go Go.RowKit
/-- what holds nothing frozen -/
def clean1 : PV → PV
 | .v agg s x => if s.plain = true then .v agg s x else .dead
 | .root k s f x => if Fl.nofz s f = true then .root k s f x else .dead
 | .emp => .emp
 | _ => .dead
def clean (st : St) : St := st.map clean1
theorem clean_len (st : St) : (clean st).length = st.length := by simp [clean]
theorem clean_at (st : St) (t : Nat) : (clean st).at t = clean1 (st.at t) := by
 unfold clean St.at
 rw [List.getD_eq_getElem?_getD, List.getD_eq_getElem?_getD, List.getElem?_map]
 cases st[t]? <;> rfl
section
variable {L : Lay} {st : St} {a : Act} {w : World} {R : Nat → Prop}
/-- what is let go is frozen from then on -/
theorem Rel.frozen (h : Rel L st a w R) : Rel ⟨fun b => L.Z b ∨ R b, L.F, L.C, L.D⟩ st a w Free where
 size := h.size
 defers := h.defers
 zlt := ⟨fun b hb => hb.elim (h.zlt b) fun q => (h.rlt b q).1, h.zlt.gl.up fun b hb => .inl hb⟩
 flt := fun t b hb => ⟨(h.flt t b hb).1, fun q => q.elim (h.flt t b hb).2 (h.rdj t b hb)⟩
 dj := h.dj
 rlt := fun b hb => hb.elim
 rdj := fun t b _ hb => hb.elim
 tmp := fun t ht => by
  have := h.tmp t ht
  rcases PV.root_or (st.at t) with ⟨k, s, f, x, e⟩ | e
  ·rw [e] at this ⊢
   obtain ⟨q1, B, q2, q3, q4⟩ := this
   exact ⟨q1, B, q2, q3, q4.frame (fun b hb => .inl hb) (fun _ _ => rfl)⟩
  ·rw [PVRep.of e] at this ⊢
   exact ORep.places (L' := ⟨fun b => L.Z b ∨ R b, L.F, L.C, L.D⟩) (fun b hb => Or.inl hb) (fun _ _ => rfl) (fun agg g p _ s1 cs1 ad1 h1 h2 h3 => ⟨s1, cs1, ad1, h1, h2, h3⟩) (fun g p _ s1 cs1 A h1 => ⟨cs1, h1⟩) this
theorem Rel.clean (h : Rel L st a w Free) {Z : Nat → Prop} (hZ : ∀ b, Z b → L.Z b) (hG : GOk Z w) : Rel ⟨Z, L.F, L.C, L.D⟩ (V.clean st) a w Free where
 size := by rw [clean_len]; exact h.size
 defers := h.defers
 zlt := ⟨fun b hb => h.zlt b (hZ b hb), hG⟩
 flt := fun t b hb => ⟨(h.flt t b hb).1, fun q => (h.flt t b hb).2 (hZ b q)⟩
 dj := h.dj
 rlt := fun b hb => hb.elim
 rdj := fun t b _ hb => hb.elim
 tmp := fun t ht => by
  rw [clean_len] at ht
  have := h.tmp t ht
  rw [clean_at]
  generalize a.tmps.getD t undef = v at this ⊢
  cases hp : st.at t with
  | v agg s x =>
   rw [hp] at this
   simp only [clean1]
   split
   ·rename_i hs
    obtain ⟨cs, q1, q2⟩ := this
    exact ⟨cs, q1, q2.plain hs⟩
   ·trivial
  | root k s f x =>
   rw [hp] at this
   simp only [clean1]
   split
   ·rename_i hs
    obtain ⟨q1, B, q2, q3, q4⟩ := this
    exact ⟨q1, B, q2, q3, q4.nofz hs⟩
   ·trivial
  | emp =>
   rw [hp] at this
   exact this
  | dead => trivial
  | h => trivial
  | adr => trivial
  | fadr => trivial
  | fn => trivial
end
end Go.Proofs.YtoeblmcibheldaaDoor.V
end
section
namespace Go.Proofs.YtoeblmcibheldaaDoor.V.W
open Go Go.RowKit
/-- where p holds first -/
def IdxI (p : Int → Bool) (xs : List Int) (m : Int) : Prop := (m = -1 ∧ ∀ k, k < xs.length → p (xs.getD k 0) = false) ∨ ∃ i : Nat, i < xs.length ∧ m = i ∧ p (xs.getD i 0) = true ∧ ∀ k, k < i → p (xs.getD k 0) = false
theorem IdxI.any {p : Int → Bool} {xs : List Int} {m : Int} (h : IdxI p xs m) : decide (m ≥ 0) = xs.any p := by
 rcases h with ⟨rfl, h⟩ | ⟨i, h1, rfl, h2, _⟩
 ·have : xs.any p = false := by
   rw [List.any_eq_false]
   intro x hx
   obtain ⟨k, hk, rfl⟩ := List.mem_iff_getElem.1 hx
   have := h k hk
   rw [List.getD_eq_getElem?_getD, List.getElem?_eq_getElem hk] at this
   simpa using this
  rw [this]; rfl
 ·have : xs.any p = true := by
   rw [List.any_eq_true]
   refine ⟨xs[i], List.getElem_mem h1, ?_⟩
   rw [List.getD_eq_getElem?_getD, List.getElem?_eq_getElem h1] at h2
   exact h2
  rw [this]; simp
end Go.Proofs.YtoeblmcibheldaaDoor.V.W
end
section
namespace Go.Proofs.YtoeblmcibheldaaDoor.V.W
open Go Go.RowKit
end Go.Proofs.YtoeblmcibheldaaDoor.V.W
end
section
namespace Go.Proofs.YtoeblmcibheldaaDoor.V.W
open Go Go.RowKit
/-- the nodes below k among the first i -/
def kids (t : List Nd) (k : Int) (i : Nat) : List Int := ((List.range i).filter fun j : Nat => (t.getD j z).1 == k).map fun j : Nat => (j : Int)
theorem kids_succ (t : List Nd) (k : Int) (i : Nat) : kids t k (i + 1) = kids t k i ++ (if ((t.getD i z).1 == k) = true then [(i : Int)] else []) := by
 unfold kids
 rw [List.range_succ, List.filter_append, List.map_append]
 congr 1
 simp only [List.filter_cons, List.filter_nil]
 split <;> rfl
theorem kids_len (t : List Nd) (k : Int) (i : Nat) : (kids t k i).length ≤ i := by
 unfold kids
 rw [List.length_map]
 have := List.length_filter_le (fun j : Nat => (t.getD j z).1 == k) (List.range i)
 rwa [List.length_range] at this
end Go.Proofs.YtoeblmcibheldaaDoor.V.W
end
section
namespace Go.Proofs.YtoeblmcibheldaaDoor.V.W
open Go Go.RowKit
theorem nodup_ints {xs : List Nat} (h : xs.Nodup) : (xs.map fun j : Nat => (j : Int)).Nodup :=
 List.Pairwise.map _ (fun a b (hn : a ≠ b) => show (a : Int) ≠ (b : Int) by omega) h
theorem kids_nodup (t : List Nd) (k : Int) (i : Nat) : (kids t k i).Nodup := by
 unfold kids
 exact nodup_ints (List.nodup_range.sublist List.filter_sublist)
theorem kids_iff {t : List Nd} {k : Int} {i : Nat} {a : Int} : a ∈ kids t k i ↔ 0 ≤ a ∧ a < i ∧ (t.getD a.toNat z).1 = k := by
 unfold kids
 rw [List.mem_map]
 constructor
 ·rintro ⟨j, h1, rfl⟩
  have h2 := List.mem_filter.1 h1
  have := List.mem_range.1 h2.1
  exact ⟨by omega, by omega, by simpa using h2.2⟩
 ·rintro ⟨h1, h2, h3⟩
  exact ⟨a.toNat, List.mem_filter.2 ⟨List.mem_range.2 (by omega), by simpa using h3⟩, by omega⟩
theorem kidsD_iff {t : List Nd} {k : Int} {d i : Nat} {a : Int} : a ∈ kidsD t k d i ↔ 1 ≤ a ∧ a < i ∧ (t.getD a.toNat z).1 = k ∧ (t.getD a.toNat z).2.1 = d := by
 unfold kidsD
 rw [List.mem_map]
 constructor
 ·rintro ⟨j, h1, rfl⟩
  have h2 := List.mem_filter.1 h1
  have := List.mem_range.1 h2.1
  simp only [Bool.and_eq_true, decide_eq_true_eq, beq_iff_eq] at h2
  exact ⟨by omega, by omega, by simpa using h2.2.2.1, by simpa using h2.2.2.2⟩
 ·rintro ⟨h1, h2, h3, h4⟩
  refine ⟨a.toNat, List.mem_filter.2 ⟨List.mem_range.2 (by omega), ?_⟩, by omega⟩
  simp only [Bool.and_eq_true, decide_eq_true_eq, beq_iff_eq]
  exact ⟨by omega, h3, h4⟩
theorem kidsD_nodup (t : List Nd) (k : Int) (d i : Nat) : (kidsD t k d i).Nodup := by
 unfold kidsD
 exact nodup_ints (List.nodup_range.sublist List.filter_sublist)
theorem kidsTo_iff {t : List Nd} {k : Int} {a : Int} : ∀ {d : Nat}, a ∈ kidsTo t k d ↔ ∃ e, e < d ∧ a ∈ kidsD t k e t.length := by
 intro d
 unfold kidsTo
 simp only [List.mem_flatMap, List.mem_range]
theorem kidsTo_nodup (t : List Nd) (k : Int) : ∀ d, (kidsTo t k d).Nodup
 | 0 => by simp [kidsTo]
 | d + 1 => by
  rw [kidsTo_succ]
  refine List.nodup_append.2 ⟨kidsTo_nodup t k d, kidsD_nodup t k d _, fun a ha b hb => ?_⟩
  rintro rfl
  obtain ⟨e, he, h1⟩ := kidsTo_iff.1 ha
  have h1 := (kidsD_iff.1 h1).2.2.2
  have h2 := (kidsD_iff.1 hb).2.2.2
  rw [h1] at h2
  omega
theorem node_ok {t : List Nd} (hok : treeOk t = true) {k : Nat} (hk : k < t.length) : (treeOk t && inB (k : Int) 0 (t.length - 1)) = true := by
 rw [hok, Bool.true_and]
 exact inB_iff.2 ⟨by omega, by omega⟩
theorem kids_pos {t : List Nd} (hok : treeOk t = true) {k : Nat} {a : Int} (h : a ∈ kids t k t.length) : ∃ j : Nat, a = j ∧ 1 ≤ j ∧ j < t.length ∧ (t.getD j z).1 = k ∧ k < j := by
 have h := kids_iff.1 h
 have h0 : a ≠ 0 := by
  rintro rfl
  have h1 := (tree_parts hok).2.1
  rw [show (t.getD (0 : Int).toNat z) = (-1, 0, 0) from h1] at h
  have := h.2.2
  simp at this
 have h1 := tree_node hok (j := a.toNat) (by omega) (by omega)
 exact ⟨a.toNat, by omega, by omega, by omega, h.2.2, by omega⟩
theorem skids_perm {t : List Nd} (hok : treeOk t = true) {k : Nat} (hk : k < t.length) : (skids t k).Perm (kids t k t.length) := by
 rw [skids, if_pos (node_ok hok hk)]
 refine (List.perm_ext_iff_of_nodup (kidsTo_nodup _ _ _) (kids_nodup _ _ _)).2 fun a => ⟨fun h => ?_, fun h => ?_⟩
 ·obtain ⟨e, he, h1⟩ := kidsTo_iff.1 h
  have := kidsD_iff.1 h1
  exact kids_iff.2 ⟨by omega, by omega, this.2.2.1⟩
 ·obtain ⟨j, rfl, h1, h2, h3, h4⟩ := kids_pos hok h
  have hn := tree_node hok h1 h2
  refine kidsTo_iff.2 ⟨(t.getD j z).2.1.toNat, by omega, kidsD_iff.2 ⟨by omega, by omega, h3, ?_⟩⟩
  show (t.getD j z).2.1 = _
  omega
/-- a sum over nodes -/
def wsum (f : Nat → Nat) (xs : List Int) : Nat := (xs.map fun a : Int => f a.toNat).sum
theorem wsum_perm {f : Nat → Nat} {xs ys : List Int} (h : xs.Perm ys) : wsum f xs = wsum f ys := (h.map _).sum_nat
theorem wsum_nil (f : Nat → Nat) : wsum f [] = 0 := rfl
theorem wsum_cons (f : Nat → Nat) (a : Int) (xs : List Int) : wsum f (a :: xs) = f a.toNat + wsum f xs := rfl
theorem wsum_app (f : Nat → Nat) (xs ys : List Int) : wsum f (xs ++ ys) = wsum f xs + wsum f ys := by
 unfold wsum
 rw [List.map_append, List.sum_append_nat]
theorem wsum_take (f : Nat → Nat) {xs : List Int} {i : Nat} (h : i < xs.length) : wsum f (xs.take (i + 1)) = wsum f (xs.take i) + f (xs.getD i 0).toNat := by
 rw [List.take_add_one, List.getElem?_eq_getElem h, wsum_app, List.getD_eq_getElem?_getD, List.getElem?_eq_getElem h]
 rfl
theorem wsum_le (f : Nat → Nat) : ∀ (xs : List Int) (i : Nat), wsum f (xs.take i) ≤ wsum f xs
 | xs, i => by
  have := wsum_app f (xs.take i) (xs.drop i)
  rw [List.take_append_drop] at this
  omega
theorem wsum_ext {f g : Nat → Nat} : ∀ {xs : List Int}, (∀ a, a ∈ xs → f a.toNat = g a.toNat) → wsum f xs = wsum g xs
 | [], _ => rfl
 | a :: xs, h => by
  rw [wsum_cons, wsum_cons, h a (List.mem_cons_self ..), wsum_ext fun b hb => h b (List.mem_cons_of_mem _ hb)]
theorem wsum_bd {f g : Nat → Nat} : ∀ {xs : List Int}, (∀ a, a ∈ xs → f a.toNat ≤ g a.toNat) → wsum f xs ≤ wsum g xs
 | [], _ => Nat.le_refl _
 | a :: xs, h => by
  rw [wsum_cons, wsum_cons]
  exact Nat.add_le_add (h a (List.mem_cons_self ..)) (wsum_bd fun b hb => h b (List.mem_cons_of_mem _ hb))
/-- the least power of two from n on; nothing for nothing -/
def up (n : Nat) : Nat := if n = 0 then 0 else 2 ^ (2 * n - 1).log2
theorem up_eq {n i : Nat} (h1 : 1 ≤ n) (h2 : n ≤ 2 ^ i) (h3 : i = 0 ∨ 2 ^ (i - 1) < n) : up n = 2 ^ i := by
 rw [up, if_neg (by omega), (Nat.log2_eq_iff (by omega)).2]
 rcases h3 with rfl | h3
 ·simp at h2 ⊢
  omega
 ·cases i with
  | zero => simp at h2 ⊢; omega
  | succ i =>
   simp only [Nat.add_sub_cancel] at h3
   rw [Nat.pow_succ] at h2 ⊢
   rw [Nat.pow_succ, Nat.pow_succ]
   omega
theorem up_pow {n : Nat} (h : 1 ≤ n) : ∃ i, up n = 2 ^ i := ⟨_, by rw [up, if_neg (by omega)]⟩
theorem up_le (n : Nat) : n ≤ up n ∧ up n ≤ 2 * n := by
 rcases Nat.eq_zero_or_pos n with rfl | h
 ·simp [up]
 ·rw [up, if_neg (by omega)]
  have h1 := Nat.log2_self_le (n := 2 * n - 1) (by omega)
  have h2 := Nat.lt_log2_self (n := 2 * n - 1)
  rw [Nat.pow_succ] at h2
  omega
/-- the size of a node's window -/
def winF (t : List Nd) (s : List Int) : Nat → Nat → Nat
 | 0, _ => 0
 | f + 1, k => if (t.getD k z).2.2 = 0 then up (wsum (winF t s f) (kids t k t.length)) else (s.getD k 0).toNat
theorem winF_same {t : List Nd} (hok : treeOk t = true) (s : List Int) : ∀ (f g k : Nat), k < t.length → t.length - k ≤ f → t.length - k ≤ g → winF t s f k = winF t s g k
 | 0, g, k, hk, h1, h2 => by omega
 | f + 1, 0, k, hk, h1, h2 => by omega
 | f + 1, g + 1, k, hk, h1, h2 => by
  rw [winF, winF]
  split
  ·congr 1
   refine wsum_ext fun a ha => ?_
   obtain ⟨j, rfl, h3, h4, h5, h6⟩ := kids_pos hok ha
   exact winF_same hok s f g j h4 (by omega) (by omega)
  ·rfl
def win (t : List Nd) (s : List Int) (k : Nat) : Nat := winF t s t.length k
/-- the sum of the windows below a node -/
def ksum (t : List Nd) (s : List Int) (k : Nat) : Nat := wsum (win t s) (kids t k t.length)
theorem win_eq {t : List Nd} (hok : treeOk t = true) (s : List Int) {k : Nat} (hk : k < t.length) : win t s k = if (t.getD k z).2.2 = 0 then up (ksum t s k) else (s.getD k 0).toNat := by
 unfold win ksum
 obtain ⟨n, hn⟩ : ∃ n, t.length = n + 1 := ⟨t.length - 1, by omega⟩
 rw [winF_same hok s t.length (n + 1) k hk (by omega) (by omega), winF]
 split
 ·congr 1
  refine wsum_ext fun a ha => ?_
  obtain ⟨j, rfl, h3, h4, h5, h6⟩ := kids_pos hok ha
  exact winF_same hok s n t.length j h4 (by omega) (by omega)
 ·rfl
theorem sizes_node {t : List Nd} {s : List Int} (h : sizesOk t s = true) {k : Nat} (hk : k < t.length) : s.getD k 0 = 0 ∨ (pw (s.getD k 0) = true ∧ (t.getD k z).2.2 ≠ 0) := by
 have := (sizesOk_iff.1 h).2.2 k hk
 simp only [sizeBad, Bool.and_eq_false_iff, Bool.not_eq_false', beq_iff_eq, Bool.or_eq_false_iff, beq_eq_false_iff_ne] at this
 rcases this with h | ⟨h1, h2⟩
 ·exact .inl h
 ·exact .inr ⟨by simpa using h2, h1⟩
def bd (n : Nat) : Nat := 4096 * 3 ^ n
theorem kids_sum (g : Nat → Nat) (t : List Nd) (k : Int) : ∀ n, wsum g (kids t k n) ≤ ((List.range n).map g).sum
 | 0 => by simp [kids, wsum]
 | n + 1 => by
  rw [kids_succ, wsum_app, List.range_succ, List.map_append, List.sum_append_nat]
  have := kids_sum g t k n
  have e1 : ((List.map g [n]).sum) = g n := by simp
  have e2 : wsum g [(n : Int)] = g n := by simp [wsum]
  split
  ·omega
  ·rw [wsum_nil]; omega
theorem kids_above (g : Nat → Nat) (t : List Nd) (k : Nat) (hk : ∀ a, a ∈ kids t k t.length → k < a.toNat) : wsum g (kids t k t.length) ≤ ((List.range t.length).map fun j => if k < j then g j else 0).sum := by
 refine Nat.le_trans (Nat.le_of_eq ?_) (kids_sum _ t k t.length)
 exact wsum_ext fun a ha => by rw [if_pos (hk a ha)]
theorem bd_sum (n : Nat) : ∀ m, m ≤ n → ∀ k, (2 * ((List.range m).map fun j => if k < j then bd (n - j) else 0).sum) + bd (n + 1 - m) ≤ bd (n - k) ∨ m ≤ k + 1 ∧ ((List.range m).map fun j => if k < j then bd (n - j) else 0).sum = 0
 | 0, _, k => .inr ⟨by omega, rfl⟩
 | m + 1, h, k => by
  rw [List.range_succ, List.map_append, List.sum_append_nat]
  simp only [List.map_cons, List.map_nil, List.sum_cons, List.sum_nil, Nat.add_zero]
  have h3 : bd (n + 1 - m) = 3 * bd (n - m) := by
   rw [show n + 1 - m = (n - m) + 1 by omega, bd, bd, Nat.pow_succ]
   omega
  rw [show n + 1 - (m + 1) = n - m by omega]
  rcases bd_sum n m (by omega) k with h1 | ⟨h1, h2⟩
  ·refine .inl ?_
   split <;> omega
  ·rw [h2]
   split
   ·obtain rfl : m = k + 1 := by omega
    refine .inl ?_
    have : bd (n - k) = 3 * bd (n - (k + 1)) := by
     rw [show n - k = (n - (k + 1)) + 1 by omega, bd, bd, Nat.pow_succ]
     omega
    omega
   ·exact .inr ⟨by omega, rfl⟩
theorem ksum_bd {t : List Nd} (hok : treeOk t = true) {s : List Int} {k : Nat} (hk : k < t.length) (h : ∀ j, k < j → j < t.length → win t s j ≤ bd (t.length - j)) : 2 * ksum t s k ≤ bd (t.length - k) := by
 have h1 : ksum t s k ≤ wsum (fun j => bd (t.length - j)) (kids t k t.length) := by
  refine wsum_bd fun a ha => ?_
  obtain ⟨j, rfl, h3, h4, h5, h6⟩ := kids_pos hok ha
  exact h j h6 h4
 have h2 := kids_above (fun j => bd (t.length - j)) t k fun a ha => by
  obtain ⟨j, rfl, h3, h4, h5, h6⟩ := kids_pos hok ha
  omega
 rcases bd_sum t.length t.length (Nat.le_refl _) k with h3 | ⟨h3, h4⟩ <;> omega
theorem win_bd {t : List Nd} {s : List Int} (hs : sizesOk t s = true) : ∀ (f k : Nat), t.length - k ≤ f → k < t.length → win t s k ≤ bd (t.length - k)
 | 0, k, h, hk => by omega
 | f + 1, k, h, hk => by
  have hok := (sizesOk_iff.1 hs).1
  rw [win_eq hok s hk]
  split
  ·have h1 := ksum_bd hok (s := s) hk fun j h1 h2 => win_bd hs f j (by omega) h2
   have h2 := up_le (ksum t s k)
   omega
  ·have h0 : bd 0 ≤ bd (t.length - k) := Nat.mul_le_mul_left _ (Nat.pow_le_pow_right (by omega) (by omega))
   have h0 : 4096 ≤ bd (t.length - k) := h0
   rcases sizes_node hs hk with h1 | ⟨h1, _⟩
   ·rw [h1]; simp
   ·have := pw_in h1
    omega
/-- no sum of windows runs over -/
theorem ksum_lim {t : List Nd} {s : List Int} (hs : sizesOk t s = true) {k : Nat} (hk : k < t.length) : ksum t s k ≤ 1088391168 := by
 have hok := (sizesOk_iff.1 hs).1
 have h1 := ksum_bd hok (s := s) hk fun j h1 h2 => win_bd hs _ j (Nat.le_refl _) h2
 have h2 := treeOk_len hok
 have h3 : bd (t.length - k) ≤ bd 12 := Nat.mul_le_mul_left _ (Nat.pow_le_pow_right (by omega) (by omega))
 have : bd 12 = 2176782336 := by decide
 omega
theorem win_lim {t : List Nd} {s : List Int} (hs : sizesOk t s = true) {k : Nat} (hk : k < t.length) : win t s k ≤ 2176782336 := by
 have hok := (sizesOk_iff.1 hs).1
 rw [win_eq hok s hk]
 split
 ·have := up_le (ksum t s k)
  have := ksum_lim hs hk
  omega
 ·rcases sizes_node hs hk with h1 | ⟨h1, _⟩
  ·rw [h1]; simp
  ·have := pw_in h1
   omega
/-- a window is a power of two, or nothing -/
theorem win_pow {t : List Nd} {s : List Int} (hs : sizesOk t s = true) {k : Nat} (hk : k < t.length) : win t s k = 0 ∨ ∃ i, win t s k = 2 ^ i := by
 have hok := (sizesOk_iff.1 hs).1
 rw [win_eq hok s hk]
 split
 ·rcases Nat.eq_zero_or_pos (ksum t s k) with h | h
  ·rw [h]; exact .inl rfl
  ·exact .inr (up_pow h)
 ·rcases sizes_node hs hk with h1 | ⟨h1, _⟩
  ·rw [h1]; exact .inl rfl
  ·obtain ⟨i, -, h2⟩ := pw_pow h1
   rw [h2]
   exact .inr ⟨i, Int.toNat_natCast _⟩
/-- a node's number of functions -/
theorem tree_fun {t : List Nd} (h : treeOk t = true) {k : Nat} (hk : k < t.length) : 0 ≤ (t.getD k z).2.2 ∧ (t.getD k z).2.2 ≤ 4 := by
 rcases Nat.eq_zero_or_pos k with rfl | h1
 ·rw [(tree_parts h).2.1]; decide
 ·obtain ⟨i, rfl⟩ : ∃ i, k = i + 1 := ⟨k - 1, by omega⟩
  have hb := (tree_parts h).2.2 i hk
  simp only [bad, bad1, Bool.or_eq_false_iff, Bool.not_eq_false'] at hb
  exact inB_iff.1 hb.1.2.2.2
end Go.Proofs.YtoeblmcibheldaaDoor.V.W
end
section
namespace Go.Proofs.YtoeblmcibheldaaDoor.V.W
open Go Go.RowKit
theorem getD_mem {xs : List Int} {i : Nat} (h : i < xs.length) : xs.getD i 0 ∈ xs := by
 rw [List.getD_eq_getElem?_getD, List.getElem?_eq_getElem h]
 exact List.getElem_mem h
end Go.Proofs.YtoeblmcibheldaaDoor.V.W
end
section
namespace Go.Proofs.YtoeblmcibheldaaDoor.V.W
open Go Go.RowKit
/-- how long two rows agree -/
def cpl : List Int → List Int → Nat
 | a :: x, b :: y => if a = b then cpl x y + 1 else 0
 | _, _ => 0
def isNd (t : List Nd) (k : Int) : Bool := treeOk t && inB k 0 (t.length - 1)
/-- the nodes from one node to another -/
def between (t : List Nd) (a b : Int) : List Int := if (isNd t a && isNd t b) = true then ((pathTo t a).drop (cpl (pathTo t a) (pathTo t b) - 1)).reverse ++ (pathTo t b).drop (cpl (pathTo t a) (pathTo t b)) else []
end Go.Proofs.YtoeblmcibheldaaDoor.V.W
end
section
namespace Go.Proofs.YtoeblmcibheldaaDoor.V.W
open Go Go.RowKit
end Go.Proofs.YtoeblmcibheldaaDoor.V.W
end
section
namespace Go.Proofs.YtoeblmcibheldaaDoor.V.W
open Go Go.RowKit
/-- a lies before b: the greater window first, then the lower number -/
def lt (w : Nat → Nat) (a b : Int) : Prop := w b.toNat < w a.toNat ∨ (w a.toNat = w b.toNat ∧ a < b)
instance (w : Nat → Nat) (a b : Int) : Decidable (lt w a b) := by unfold lt; infer_instance
theorem wsum_filter (f : Nat → Nat) (p : Int → Bool) : ∀ {xs : List Int} {a : Int}, a ∈ xs → p a = false → wsum f (xs.filter p) + f a.toNat ≤ wsum f xs
 | b :: xs, a, h, hp => by
  have hle : ∀ ys : List Int, wsum f (ys.filter p) ≤ wsum f ys := by
   intro ys
   induction ys with
   | nil => exact Nat.le_refl _
   | cons y ys ih =>
    rw [List.filter_cons]
    split
    ·rw [wsum_cons, wsum_cons]; omega
    ·rw [wsum_cons]; omega
  rcases List.mem_cons.1 h with rfl | h
  ·rw [List.filter_cons, if_neg (by simp [hp]), wsum_cons]
   have := hle xs
   omega
  ·have := wsum_filter f p h hp
   rw [List.filter_cons]
   split
   ·rw [wsum_cons, wsum_cons]; omega
   ·rw [wsum_cons]; omega
/-- what is laid down before j -/
def befs (t : List Nd) (s : List Int) (k : Int) (j : Nat) : Nat := wsum (win t s) ((kids t k t.length).filter fun a => decide (lt (win t s) a j))
/-- where the window of a node begins -/
def posF (t : List Nd) (s : List Int) : Nat → Nat → Nat
 | 0, _ => 0
 | f + 1, j => if j = 0 ∨ win t s j = 0 then 0 else posF t s f (t.getD j z).1.toNat + befs t s (t.getD j z).1 j
def pos (t : List Nd) (s : List Int) (j : Nat) : Nat := posF t s j j
theorem posF_same {t : List Nd} (hok : treeOk t = true) (s : List Int) : ∀ (f g j : Nat), j < t.length → j ≤ f → j ≤ g → posF t s f j = posF t s g j
 | 0, 0, j, hj, h1, h2 => rfl
 | 0, g + 1, j, hj, h1, h2 => by
  obtain rfl : j = 0 := by omega
  rw [posF, posF, if_pos (.inl rfl)]
 | f + 1, 0, j, hj, h1, h2 => by
  obtain rfl : j = 0 := by omega
  rw [posF, posF, if_pos (.inl rfl)]
 | f + 1, g + 1, j, hj, h1, h2 => by
  rw [posF, posF]
  split
  ·rfl
  ·rename_i hn
   have := tree_node hok (j := j) (by omega) hj
   rw [posF_same hok s f g _ (by omega) (by omega) (by omega)]
theorem pos_root (t : List Nd) (s : List Int) : pos t s 0 = 0 := rfl
theorem pos_zero {t : List Nd} {s : List Int} {j : Nat} (h : win t s j = 0) : pos t s j = 0 := by
 unfold pos
 cases j with
 | zero => rfl
 | succ j => rw [posF, if_pos (.inr h)]
theorem pos_eq {t : List Nd} (hok : treeOk t = true) {s : List Int} {j k : Nat} (h1 : 1 ≤ j) (h2 : j < t.length) (hw : win t s j ≠ 0) (hp : (t.getD j z).1 = (k : Int)) : pos t s j = pos t s k + befs t s k j := by
 have hn := tree_node hok h1 h2
 unfold pos
 obtain ⟨f, rfl⟩ : ∃ f, j = f + 1 := ⟨j - 1, by omega⟩
 rw [posF, if_neg (by omega), hp]
 congr 1
 exact posF_same hok s f k _ (by show k < _; omega) (by show k ≤ _; omega) (Nat.le_refl k)
theorem befs_le {t : List Nd} {s : List Int} {j k : Nat} (h2 : j < t.length) (hp : (t.getD j z).1 = (k : Int)) : befs t s k j + win t s j ≤ ksum t s k := by
 unfold befs ksum
 have hm : (j : Int) ∈ kids t k t.length := kids_iff.2 ⟨by omega, by omega, hp⟩
 have h := wsum_filter (win t s) (fun a => decide (lt (win t s) a j)) hm (by
  have : ¬ lt (win t s) (j : Int) j := by unfold lt; omega
  simpa using this)
 exact h
theorem bridge_win {t : List Nd} (hok : treeOk t = true) (s : List Int) {k j : Nat} (h1 : 1 ≤ j) (h2 : j < t.length) (hp : (t.getD j z).1 = (k : Int)) : win t s k = up (ksum t s k) := by
 have hn := tree_node hok h1 h2
 rw [hp] at hn
 rw [Int.toNat_natCast] at hn
 rw [win_eq hok s (by omega), if_pos hn.2.2.1]
theorem ksum_le {t : List Nd} (hok : treeOk t = true) (s : List Int) {k j : Nat} (h1 : 1 ≤ j) (h2 : j < t.length) (hp : (t.getD j z).1 = (k : Int)) : ksum t s k ≤ win t s k := by
 rw [bridge_win hok s h1 h2 hp]
 exact (up_le _).1
theorem pos_bd {t : List Nd} (hok : treeOk t = true) (s : List Int) : ∀ (f j : Nat), j ≤ f → j < t.length → pos t s j + win t s j ≤ win t s 0
 | f, j, hf, hj => by
  rcases Nat.eq_zero_or_pos j with rfl | h1
  ·rw [pos_root]; omega
  rcases Nat.eq_zero_or_pos (win t s j) with h0 | h0
  ·rw [pos_zero h0]; omega
  obtain ⟨k, hp, hk⟩ := par hok h1 hj
  cases f with
  | zero => omega
  | succ f =>
   have := pos_bd hok s f k (by omega) (by omega)
   have := befs_le (s := s) hj hp
   have := ksum_le hok s h1 hj hp
   rw [pos_eq hok h1 hj (by omega) hp]
   omega
theorem par_win {t : List Nd} (hok : treeOk t = true) (s : List Int) {k j : Nat} (h1 : 1 ≤ j) (h2 : j < t.length) (hp : (t.getD j z).1 = (k : Int)) : win t s j ≤ win t s k := by
 have := befs_le (s := s) h2 hp
 have := ksum_le hok s h1 h2 hp
 omega
/-- j lies below k -/
inductive Bel (t : List Nd) (k : Nat) : Nat → Prop
 | kid {j : Nat} : 1 ≤ j → j < t.length → (t.getD j z).1 = (k : Int) → Bel t k j
 | low {i j : Nat} : Bel t k i → 1 ≤ j → j < t.length → (t.getD j z).1 = (i : Int) → Bel t k j
theorem bel_cases {t : List Nd} {k j : Nat} (h : Bel t k j) : ∃ c : Nat, 1 ≤ c ∧ c < t.length ∧ (t.getD c z).1 = (k : Int) ∧ (j = c ∨ Bel t c j) := by
 induction h with
 | kid h1 h2 h3 => exact ⟨_, h1, h2, h3, .inl rfl⟩
 | low h h1 h2 h3 ih =>
  obtain ⟨c, q1, q2, q3, q4⟩ := ih
  refine ⟨c, q1, q2, q3, .inr ?_⟩
  rcases q4 with rfl | q4
  ·exact .kid h1 h2 h3
  ·exact .low q4 h1 h2 h3
theorem bel_root {t : List Nd} (hok : treeOk t = true) : ∀ (f j : Nat), j ≤ f → 1 ≤ j → j < t.length → Bel t 0 j
 | f, j, hf, h1, h2 => by
  obtain ⟨p, hp, hl⟩ := par hok h1 h2
  cases p with
  | zero => exact .kid h1 h2 hp
  | succ p =>
   cases f with
   | zero => omega
   | succ f => exact .low (bel_root hok f (p + 1) (by omega) (by omega) (by omega)) h1 h2 hp
theorem bel_win {t : List Nd} (hok : treeOk t = true) (s : List Int) {k j : Nat} (h : Bel t k j) : win t s j ≤ win t s k := by
 induction h with
 | kid h1 h2 h3 => exact par_win hok s h1 h2 h3
 | low h h1 h2 h3 ih => exact Nat.le_trans (par_win hok s h1 h2 h3) ih
theorem bel_bridge {t : List Nd} (hok : treeOk t = true) {k j : Nat} (h : Bel t k j) : (t.getD k z).2.2 = 0 := by
 induction h with
 | kid h1 h2 h3 =>
  have hn := tree_node hok h1 h2
  rw [h3] at hn
  exact hn.2.2.1
 | low h h1 h2 h3 ih => exact ih
/-- the windows, those of D laid down -/
def bars (t : List Nd) (s : List Int) (D : Nat → Bool) : List (Int × Int) := (List.range t.length).map fun i => ((win t s i : Int), if D i = true then (pos t s i : Int) else 0)
theorem bars_len (t : List Nd) (s : List Int) (D : Nat → Bool) : (bars t s D).length = t.length := by simp [bars]
theorem bars_get (t : List Nd) (s : List Int) (D : Nat → Bool) {i : Nat} (h : i < t.length) (d : Int × Int) : (bars t s D).getD i d = ((win t s i : Int), if D i = true then (pos t s i : Int) else 0) := by
 rw [List.getD_eq_getElem?_getD, List.getElem?_eq_getElem (by rw [bars_len]; exact h)]
 simp [bars]
theorem bars_set (t : List Nd) (s : List Int) (D : Nat → Bool) {j : Nat} (h : j < t.length) : (bars t s D).set j ((win t s j : Int), (pos t s j : Int)) = bars t s (fun i => D i || i == j) := by
 refine List.ext_getElem (by simp [bars]) fun i h1 h2 => ?_
 rw [List.getElem_set]
 simp only [bars, List.getElem_map, List.getElem_range]
 split
 ·rename_i e
  subst e
  simp
 ·rename_i e
  have : (i == j) = false := by simpa using fun h => e h.symm
  simp only [this, Bool.or_false]
theorem bars_same (t : List Nd) (s : List Int) {D E : Nat → Bool} (h : ∀ i, i < t.length → win t s i ≠ 0 → i ≠ 0 → D i = E i) : bars t s D = bars t s E := by
 refine List.ext_getElem (by simp [bars]) fun i h1 h2 => ?_
 have hi : i < t.length := by simpa [bars] using h1
 simp only [bars, List.getElem_map, List.getElem_range]
 rcases Nat.eq_zero_or_pos i with rfl | h0
 ·simp [pos_root]
 rcases Nat.eq_zero_or_pos (win t s i) with h1 | h1
 ·simp [pos_zero h1]
 ·rw [h i hi (by omega) (by omega)]
/-- all laid down -/
def allBars (t : List Nd) (s : List Int) : List (Int × Int) := bars t s fun _ => true
theorem bars_all {t : List Nd} (hok : treeOk t = true) {s : List Int} {D : Nat → Bool} (h : ∀ j, Bel t 0 j → win t s j ≠ 0 → D j = true) : bars t s D = allBars t s :=
 bars_same t s fun i h1 h2 h3 => h i (bel_root hok i i (Nat.le_refl _) (by omega) h1) h2
end Go.Proofs.YtoeblmcibheldaaDoor.V.W
end
section
namespace Go.Proofs.YtoeblmcibheldaaDoor.V.W
open Go Go.RowKit
/-- what is laid down before the number i comes up in the round of a size -/
def atS (t : List Nd) (s : List Int) (k : Nat) (size i : Nat) : Nat := wsum (win t s) ((kids t k t.length).filter fun a => decide (size < win t s a.toNat ∨ (win t s a.toNat = size ∧ a < (i : Int))))
theorem wsum_one (f : Nat → Nat) (p q : Int → Bool) (b : Int) (hq : ∀ a, q a = (p a || a == b)) : ∀ {xs : List Int}, xs.Nodup → b ∈ xs → p b = false → wsum f (xs.filter q) = wsum f (xs.filter p) + f b.toNat
 | a :: xs, hn, h, hp => by
  have hn' := List.nodup_cons.1 hn
  by_cases e : a = b
  ·subst e
   have h1 : xs.filter q = xs.filter p := List.filter_congr fun c hc => by
    have : (c == a) = false := by
     rw [beq_eq_false_iff_ne]
     rintro rfl
     exact hn'.1 hc
    rw [hq, this, Bool.or_false]
   rw [List.filter_cons_of_pos (by rw [hq]; simp), List.filter_cons_of_neg (by simp [hp]), wsum_cons, h1]
   omega
  ·have h2 : b ∈ xs := by
    rcases List.mem_cons.1 h with h | h
    ·exact absurd h.symm e
    ·exact h
   have ih := wsum_one f p q b hq hn'.2 h2 hp
   have hqa : q a = p a := by rw [hq, (beq_eq_false_iff_ne.2 e), Bool.or_false]
   rw [List.filter_cons, List.filter_cons, hqa]
   split
   ·rw [wsum_cons, wsum_cons, ih]; omega
   ·exact ih
theorem atS_hit {t : List Nd} {s : List Int} {k size i : Nat} (hi : i < t.length) (hp : (t.getD i z).1 = (k : Int)) (hw : win t s i = size) : atS t s k size (i + 1) = atS t s k size i + size := by
 unfold atS
 have := wsum_one (win t s) (fun a => decide (size < win t s a.toNat ∨ (win t s a.toNat = size ∧ a < (i : Int)))) (fun a => decide (0 ≤ a ∧ (size < win t s a.toNat ∨ (win t s a.toNat = size ∧ a < (i : Int)))) || a == (i : Int)) (i : Int)
 have h1 := wsum_one (win t s) (fun a => decide (0 ≤ a ∧ (size < win t s a.toNat ∨ (win t s a.toNat = size ∧ a < (i : Int))))) (fun a => decide (0 ≤ a ∧ (size < win t s a.toNat ∨ (win t s a.toNat = size ∧ a < (i : Int)))) || a == (i : Int)) (i : Int) (fun a => rfl) (kids_nodup t k t.length) (kids_iff.2 ⟨by omega, by omega, hp⟩) (by simp [hw])
 rw [Int.toNat_natCast, hw] at h1
 rw [show ((kids t k t.length).filter fun a => decide (size < win t s a.toNat ∨ (win t s a.toNat = size ∧ a < ((i + 1 : Nat) : Int)))) = (kids t k t.length).filter (fun a => decide (0 ≤ a ∧ (size < win t s a.toNat ∨ (win t s a.toNat = size ∧ a < (i : Int)))) || a == (i : Int)) from List.filter_congr fun a ha => ?_, h1, show ((kids t k t.length).filter fun a => decide (size < win t s a.toNat ∨ (win t s a.toNat = size ∧ a < (i : Int)))) = (kids t k t.length).filter (fun a => decide (0 ≤ a ∧ (size < win t s a.toNat ∨ (win t s a.toNat = size ∧ a < (i : Int))))) from List.filter_congr fun a ha => ?_]
 ·have h0 := (kids_iff.1 ha).1
  rw [decide_eq_decide]
  exact ⟨fun h => ⟨h0, h⟩, fun h => h.2⟩
 ·have h0 := (kids_iff.1 ha).1
  rw [Bool.eq_iff_iff, Bool.or_eq_true, decide_eq_true_eq, decide_eq_true_eq, beq_iff_eq]
  by_cases e : a = (i : Int)
  ·subst e
   simp [hw]
   omega
  ·omega
theorem atS_miss {t : List Nd} {s : List Int} {k size i : Nat} (h : (t.getD i z).1 ≠ (k : Int) ∨ win t s i ≠ size) : atS t s k size (i + 1) = atS t s k size i := by
 unfold atS
 congr 1
 refine List.filter_congr fun a ha => ?_
 have h0 := kids_iff.1 ha
 rw [decide_eq_decide]
 by_cases e : a = (i : Int)
 ·subst e
  rw [Int.toNat_natCast] at h0 ⊢
  have h0 := h0.2.2
  rcases h with h | h
  ·exact absurd h0 h
  ·constructor <;> intro h2 <;> omega
 ·omega
theorem pow_lt_half {a e : Nat} (h : a = 0 ∨ ∃ i, a = 2 ^ i) : 2 ^ e < a ↔ 2 ^ (e + 1) < a ∨ a = 2 ^ (e + 1) := by
 rcases h with rfl | ⟨i, rfl⟩
 ·have h1 := Nat.two_pow_pos e
  have h2 := Nat.two_pow_pos (e + 1)
  omega
 ·constructor
  ·intro h
   have := (Nat.pow_lt_pow_iff_right (by omega)).1 h
   have : 2 ^ (e + 1) ≤ 2 ^ i := Nat.pow_le_pow_right (by omega) (by omega)
   omega
  ·intro h
   have := Nat.two_pow_pos e
   rw [Nat.pow_succ] at h
   omega
theorem atS_next {t : List Nd} {s : List Int} (hs : sizesOk t s = true) {k : Nat} (e : Nat) : atS t s k (2 ^ (e + 1)) t.length = atS t s k (2 ^ e) 1 := by
 unfold atS
 congr 1
 refine List.filter_congr fun a ha => ?_
 obtain ⟨j, rfl, h1, h2, h3, h4⟩ := kids_pos (sizesOk_iff.1 hs).1 ha
 have := pow_lt_half (e := e) (win_pow hs h2)
 rw [decide_eq_decide, Int.toNat_natCast]
 omega
theorem atS_first {t : List Nd} {s : List Int} (hok : treeOk t = true) {k m : Nat} (h : ∀ j, j < t.length → win t s j ≤ m) : atS t s k m 1 = 0 := by
 unfold atS
 rw [show ((kids t k t.length).filter fun a => decide (m < win t s a.toNat ∨ (win t s a.toNat = m ∧ a < ((1 : Nat) : Int)))) = [] from ?_]
 ·rfl
 rw [List.filter_eq_nil_iff]
 intro a ha
 obtain ⟨j, rfl, h1, h2, h3, h4⟩ := kids_pos hok ha
 have := h j h2
 rw [decide_eq_true_eq, Int.toNat_natCast]
 omega
theorem atS_befs {t : List Nd} {s : List Int} {k j : Nat} : atS t s k (win t s j) j = befs t s k j := rfl
theorem atS_le (t : List Nd) (s : List Int) (k size i : Nat) : atS t s k size i ≤ ksum t s k := by
 unfold atS ksum
 have hle : ∀ (p : Int → Bool) (ys : List Int), wsum (win t s) (ys.filter p) ≤ wsum (win t s) ys := by
  intro p ys
  induction ys with
  | nil => exact Nat.le_refl _
  | cons y ys ih =>
   rw [List.filter_cons]
   split
   ·rw [wsum_cons, wsum_cons]; omega
   ·rw [wsum_cons]; omega
 exact hle _ _
/-- what is laid down when the number i comes up in the round of a size -/
def dS (t : List Nd) (s : List Int) (k : Nat) (D : Nat → Bool) (size i : Nat) (j : Nat) : Bool := D j || ((t.getD j z).1 == (k : Int) && (decide (size < win t s j) || (win t s j == size && decide (j < i))))
theorem dS_hit {t : List Nd} {s : List Int} {k : Nat} {D : Nat → Bool} {size i : Nat} (hp : (t.getD i z).1 = (k : Int)) (hw : win t s i = size) : (fun j => dS t s k D size i j || j == i) = dS t s k D size (i + 1) := by
 funext j
 unfold dS
 by_cases e : j = i
 ·subst e
  rw [hp, hw]
  simp
 ·have h1 : (j == i) = false := by simpa using e
  have h2 : decide (j < i + 1) = decide (j < i) := by rw [decide_eq_decide]; omega
  rw [h1, h2, Bool.or_false]
theorem dS_miss {t : List Nd} {s : List Int} {k : Nat} {D : Nat → Bool} {size i : Nat} (h : (t.getD i z).1 ≠ (k : Int) ∨ win t s i ≠ size) : dS t s k D size i = dS t s k D size (i + 1) := by
 funext j
 unfold dS
 by_cases e : j = i
 ·subst e
  rcases h with h | h
  ·rw [beq_eq_false_iff_ne.2 h]; rfl
  ·rw [beq_eq_false_iff_ne.2 h]; rfl
 ·have h2 : decide (j < i + 1) = decide (j < i) := by rw [decide_eq_decide]; omega
  rw [h2]
end Go.Proofs.YtoeblmcibheldaaDoor.V.W
end
section
namespace Go.Proofs.YtoeblmcibheldaaDoor.V.W
open Go Go.RowKit
/-- the bridges from j down, if j is one -/
def visF (t : List Nd) : Nat → Nat → Nat
 | 0, _ => 0
 | f + 1, j => if (t.getD j z).2.2 = 0 then 1 + wsum (visF t f) (kids t j t.length) else 0
theorem visF_same {t : List Nd} (hok : treeOk t = true) : ∀ (f g k : Nat), k < t.length → t.length - k ≤ f → t.length - k ≤ g → visF t f k = visF t g k
 | 0, g, k, hk, h1, h2 => by omega
 | f + 1, 0, k, hk, h1, h2 => by omega
 | f + 1, g + 1, k, hk, h1, h2 => by
  rw [visF, visF]
  split
  ·congr 1
   refine wsum_ext fun a ha => ?_
   obtain ⟨j, rfl, h3, h4, h5, h6⟩ := kids_pos hok ha
   exact visF_same hok f g j h4 (by omega) (by omega)
  ·rfl
def vis (t : List Nd) (k : Nat) : Nat := visF t t.length k
/-- the bridges below k -/
def subs (t : List Nd) (k : Nat) : Nat := wsum (vis t) (kids t k t.length)
theorem vis_eq {t : List Nd} (hok : treeOk t = true) {k : Nat} (hk : k < t.length) : vis t k = if (t.getD k z).2.2 = 0 then 1 + subs t k else 0 := by
 unfold vis subs
 obtain ⟨n, hn⟩ : ∃ n, t.length = n + 1 := ⟨t.length - 1, by omega⟩
 rw [visF_same hok t.length (n + 1) k hk (by omega) (by omega), visF]
 split
 ·congr 1
  refine wsum_ext fun a ha => ?_
  obtain ⟨j, rfl, h3, h4, h5, h6⟩ := kids_pos hok ha
  exact visF_same hok n t.length j h4 (by omega) (by omega)
 ·rfl
def rsum (n : Nat) (f : Nat → Nat) : Nat := ((List.range n).map f).sum
theorem rsum_succ (n : Nat) (f : Nat → Nat) : rsum (n + 1) f = rsum n f + f n := by
 unfold rsum
 rw [List.range_succ, List.map_append, List.sum_append_nat]
 simp
theorem rsum_le {f g : Nat → Nat} : ∀ {n : Nat}, (∀ j, j < n → f j ≤ g j) → rsum n f ≤ rsum n g
 | 0, _ => Nat.le_refl _
 | n + 1, h => by
  rw [rsum_succ, rsum_succ]
  exact Nat.add_le_add (rsum_le fun j hj => h j (by omega)) (h n (by omega))
theorem rsum_add (f g : Nat → Nat) : ∀ n : Nat, rsum n (fun j => f j + g j) = rsum n f + rsum n g
 | 0 => rfl
 | n + 1 => by
  rw [rsum_succ, rsum_succ, rsum_succ, rsum_add f g n]
  omega
theorem rsum_one (m c : Nat) : ∀ n : Nat, rsum n (fun j => if j = m then c else 0) ≤ c
 | n => by
  have : rsum n (fun j => if j = m then c else 0) ≤ c ∧ (n ≤ m → rsum n (fun j => if j = m then c else 0) = 0) := by
   induction n with
   | zero => exact ⟨Nat.zero_le _, fun _ => rfl⟩
   | succ n ih =>
    rw [rsum_succ]
    split
    ·rename_i e
     have := ih.2 (by omega)
     exact ⟨by omega, fun h => by omega⟩
    ·exact ⟨by omega, fun h => by have := ih.2 (by omega); omega⟩
  exact this.1
theorem kids_rsum (g : Nat → Nat) (t : List Nd) (k : Int) : ∀ n, wsum g (kids t k n) = rsum n fun j => if (t.getD j z).1 = k then g j else 0
 | 0 => rfl
 | n + 1 => by
  rw [kids_succ, wsum_app, rsum_succ, kids_rsum g t k n]
  congr 1
  by_cases h : (t.getD n z).1 = k
  ·rw [if_pos (by simpa using h), if_pos h]; simp [wsum]
  ·rw [if_neg (by simpa using h), if_neg h]; rfl
def front (t : List Nd) (m : Nat) : Nat := rsum t.length fun j => if m ≤ j ∧ (t.getD j z).1 < (m : Int) then vis t j else 0
theorem front_step {t : List Nd} (hok : treeOk t = true) {m : Nat} (h1 : 1 ≤ m) (h2 : m < t.length) : front t m ≤ 1 + front t (m + 1) := by
 have hA : front t m ≤ rsum t.length (fun j => (if j = m then vis t m else 0) + (if m + 1 ≤ j ∧ (t.getD j z).1 < (m : Int) then vis t j else 0)) := by
  refine rsum_le fun j hj => ?_
  by_cases e : j = m
  ·subst e
   rw [if_pos (rfl : j = j)]
   split <;> omega
  ·rw [if_neg e]
   split
   ·rw [if_pos (by omega)]; omega
   ·omega
 have hB : subs t m + rsum t.length (fun j => if m + 1 ≤ j ∧ (t.getD j z).1 < (m : Int) then vis t j else 0) ≤ front t (m + 1) := by
  unfold subs front
  rw [kids_rsum, ← rsum_add]
  refine rsum_le fun j hj => ?_
  by_cases e : (t.getD j z).1 = (m : Int)
  ·have hj1 : j ≠ 0 := by
    rintro rfl
    rw [(tree_parts hok).2.1] at e
    have e : (-1 : Int) = m := e
    omega
   have := tree_node hok (j := j) (by omega) hj
   rw [if_pos e, if_neg (by omega), if_pos (by omega)]
   omega
  ·rw [if_neg e]
   split
   ·rw [if_pos (by omega)]; omega
   ·omega
 have hC := vis_eq hok h2
 have hD := rsum_one m (vis t m) t.length
 rw [rsum_add] at hA
 have hE : vis t m ≤ 1 + subs t m := by
  rw [hC]; split <;> omega
 omega
theorem front_bd {t : List Nd} (hok : treeOk t = true) : ∀ (f m : Nat), 1 ≤ m → m + f = t.length → front t m ≤ f
 | 0, m, h1, h2 => by
  have : front t m ≤ rsum t.length fun j => 0 := rsum_le fun j hj => by rw [if_neg (by omega)]; omega
  have h0 : ∀ n, rsum n (fun _ => 0) = 0 := by
   intro n
   induction n with
   | zero => rfl
   | succ n ih => rw [rsum_succ, ih]
  rw [h0] at this
  exact this
 | f + 1, m, h1, h2 => by
  have := front_step hok h1 (by omega)
  have := front_bd hok f (m + 1) (by omega) (by omega)
  omega
theorem subs_root {t : List Nd} (hok : treeOk t = true) : subs t 0 ≤ 11 := by
 have hl := treeOk_len hok
 have h1 := front_bd hok (t.length - 1) 1 (by omega) (by omega)
 have h2 : subs t 0 ≤ front t 1 := by
  unfold subs front
  rw [kids_rsum]
  refine rsum_le fun j hj => ?_
  by_cases e : (t.getD j z).1 = ((0 : Nat) : Int)
  ·have hj1 : j ≠ 0 := by
    rintro rfl
    rw [(tree_parts hok).2.1] at e
    have e : (-1 : Int) = ((0 : Nat) : Int) := e
    omega
   rw [if_pos e, if_pos (by omega)]
   omega
  ·rw [if_neg e]
   omega
 omega
end Go.Proofs.YtoeblmcibheldaaDoor.V.W
end
section
namespace Go.Proofs.YtoeblmcibheldaaDoor.V.W
open Go Go.RowKit
abbrev sBr : Sh := .pr (.int .i64) (.int .i64)
abbrev sBS : Sh := .sl 126 sBr
abbrev zb : Int × Int := (0, 0)
end Go.Proofs.YtoeblmcibheldaaDoor.V.W
end
section
namespace Go.Proofs.YtoeblmcibheldaaDoor.V.W
open Go Go.RowKit
end Go.Proofs.YtoeblmcibheldaaDoor.V.W
end
section
namespace Go.Proofs.YtoeblmcibheldaaDoor.V.W
open Go Go.RowKit
theorem tagE {P : Program} {f : FuncId} {args : List PV} {i : Nat} {agg : Bool} {s : Sh} {fi f0 : Fl} {x : s.ty} {Φ : s.ty → Prop} {l : List Value} {a : PV} (h : VX P f args i (fun pv ot => pv = a ∧ ∃ y, Φ y ∧ ot = .root (.val agg) s f0 y)) (ha : args[i]? = some (.root (.val agg) s f0 x)) (hu : Fl.untag s fi = f0) (he : encI s fi x = some l) (he' : ∀ y, Φ y → encI s fi y = some l) :
  VX P f (args.set i (.root (.val agg) s fi x)) i (fun pv ot => pv = a ∧ ∃ y, Φ y ∧ ot = .root (.val agg) s fi y) := by
 refine (h.tag ha hu he).mono fun pv ot ⟨ot0, ⟨h1, y, hy, h2⟩, h3⟩ => ⟨h1, y, hy, ?_⟩
 rcases h3 with ⟨y', e1, e2, e3⟩ | ⟨h3, _⟩
 ·rw [h2] at e1
  cases e1
  exact e3
 ·exact absurd (he' y hy) (h3 y h2)
end Go.Proofs.YtoeblmcibheldaaDoor.V.W
end
section
namespace Go.Proofs.YtoeblmcibheldaaDoor.V.W
open Go Go.RowKit
set_option maxRecDepth 20000 in
theorem swin_vc {t : List Nd} {s : List Int} (hs : sizesOk t s = true) : ∀ (f k : Nat), t.length - k ≤ f → k < t.length → VC Tryd.prog 72 [.v false sNS t, .v false sI s, .v false (.int .i64) ((k : Nat))] (· = .v false (.int .i64) ((win t s k : Nat)))
 := by
 intro f
 induction f with
 | zero =>
  intro k hf hk
  omega
 | succ f ih =>
  intro k hf hk
  have hok := (sizesOk_iff.1 hs).1
  have hsl := (sizesOk_iff.1 hs).2.1
  have htl := treeOk_len hok
  have hwin := win_eq hok s hk
  have hlim := ksum_lim hs hk
  have hperm := skids_perm hok hk
  have hfun := tree_fun hok hk
  have hcl : (skids t k).length ≤ 12 := by
   rw [hperm.length_eq]
   have := kids_len t k t.length
   omega
  have hsum : wsum (win t s) (skids t k) = ksum t s k := wsum_perm hperm
  refine VC.of_body hT Tryd.func72 rfl (by kernel_rfl) [(.tmp 6, false, .int .i64)] (by kernel_rfl) ?_
  show VW _ _ ([.v false sNS t, .v false sI s, .v false (.int .i64) ((k : Nat)), D, D, D, D, D, D, D, D, D, D, D, D, D, D, D, D, D, D, D, D, D, D, D, D, D, D, D, D, D, D, D, D, D, D, D, D, D, D, D, D, D, D, D, D, D, D]) _
  repeat refine VW.seq ?_
  refine VW.regl hT fun K hK => ?_
  simp only [wq, simprocAttr]
  refine hK _ ?_
  clear hK K
  try refine vthen_n ?_
  repeat refine VW.seq ?_
  refine VW.regl hT fun K hK => ?_
  simp only [wq, simprocAttr]
  refine ⟨decide_eq_true ⟨Int.natCast_nonneg _, by show (k : Int) < (t.length : Int); omega⟩, ?_⟩
  refine hK _ ?_
  clear hK K
  try refine vthen_n ?_
  repeat refine VW.seq ?_
  refine VW.cond rfl (fun hc => ?_) (fun hc => ?_)
  ·repeat refine VW.seq ?_
   refine VW.regl hT fun K hK => ?_
   simp only [wq, simprocAttr]
   refine ⟨decide_eq_true ⟨Int.natCast_nonneg _, by show (k : Int) < (s.length : Int); omega⟩, ?_⟩
   refine hK _ ?_
   clear hK K
   try refine vthen_n ?_
   refine VW.ret ⟨.inl rfl, _, rfl, ?_⟩
   have hc : (t.getD k z).2.2 > 0 := of_decide_eq_true hc
   have : s.getD k 0 = ((s.getD k 0).toNat : Int) := by
    rcases sizes_node hs hk with h | ⟨h, _⟩
    ·rw [h]; rfl
    ·have := pw_in h
     omega
   rw [hwin, if_neg (by omega), ← this]
  have hb : (t.getD k z).2.2 = 0 := by
   have : ¬ (t.getD k z).2.2 > 0 := of_decide_eq_false hc
   omega
  rw [if_pos hb] at hwin
  rw [hwin]
  generalize hL : skids t k = L at *
  refine VW.skip (vthen_n ?_)
  repeat refine VW.seq ?_
  refine VW.regl hT fun K hK => ?_
  simp only [wq, simprocAttr]
  refine vcall_of (specChildren_vc t k (by omega)) ?_
  rw [hL]
  simp only [wq, simprocAttr]
  refine hK _ ?_
  clear hK K
  try refine vthen_n ?_
  repeat refine VW.seq ?_
  refine VW.regl hT fun K hK => ?_
  simp only [wq, simprocAttr]
  refine hK _ ?_
  clear hK K
  try refine vthen_n ?_
  repeat refine VW.seq ?_
  refine VW.regl hT fun K hK => ?_
  simp only [wq, simprocAttr]
  refine hK _ ?_
  clear hK K
  try refine vthen_n ?_
  repeat refine VW.seq ?_
  refine VW.block ?_
  refine VW.loop (α := Nat) [(0, none), (1, none), (7, none), (8, none), (9, none)] (fun i => [.v false sNS t, .v false sI s, D, D, D, D, D, .root (.val false) sI .own L, .v false (.int .i64) ((wsum (win t s) (L.take i) : Nat)), .v false (.int .i64) ((i : Nat)), D, D, D, D, D, D, D, D, D, D, D, D, D, D, D, D, D, D, D, D, D, D, D, D, D, D, D, D, D, D, D, D, D, D, D, D, D, D, D]) (fun i => i ≤ L.length) (fun i => L.length - i) ⟨0, by omega, ?_⟩ fun i hi => ?_
  ·simp only [wn, wq, simprocAttr]
   try rfl
  repeat refine VW.seq ?_
  refine VW.regl hT fun K hK => ?_
  simp only [wq, simprocAttr]
  refine hK _ ?_
  clear hK K
  try refine vthen_n ?_
  repeat refine VW.seq ?_
  refine VW.cond rfl (fun hc => ?_) (fun hc => ?_)
  ·have hlt : i < L.length := by simpa using hc
   obtain ⟨j, hj, h1, h2, h3, h4⟩ := kids_pos hok (hperm.mem_iff.1 (getD_mem hlt))
   have hle := wsum_le (win t s) L (i + 1)
   have htk := wsum_take (win t s) hlt
   rw [hj, Int.toNat_natCast] at htk
   refine VW.skip (vthen_n ?_)
   repeat refine VW.seq ?_
   refine VW.block ?_
   repeat refine VW.seq ?_
   refine VW.regl hT fun K hK => ?_
   simp only [wq, simprocAttr]
   refine ⟨decide_eq_true ⟨Int.natCast_nonneg _, by show (i : Int) < (L.length : Int); omega⟩, ?_⟩
   rw [show L.getD i 0 = (j : Int) from hj]
   refine vcall_of (ih j (by omega) h2) ?_
   simp only [wq, simprocAttr]
   refine hK _ ?_
   clear hK K
   try refine vthen_n ?_
   repeat refine VW.seq ?_
   refine VW.regl hT fun K hK => ?_
   simp only [wq, simprocAttr]
   refine hK _ ?_
   clear hK K
   try refine vthen_n ?_
   refine ⟨i + 1, hlt, ?_, by show L.length - (i + 1) < L.length - i; omega⟩
   simp only [wn, wq, simprocAttr]
   rw [wrap64 (by omega) (by omega), wrap64 (by omega) (by omega), htk]
   rfl
  ·have hge : i = L.length := by
    have : L.length ≤ i := by simpa using hc
    omega
   subst hge
   refine VW.exit ?_
   show vthen _ _ _ .normal _
   refine vthen_n ?_
   rw [List.take_length, hsum]
   generalize ksum t s k = S at *
   repeat refine VW.seq ?_
   refine VW.regl hT fun K hK => ?_
   simp only [wq, simprocAttr]
   refine hK _ ?_
   clear hK K
   try refine vthen_n ?_
   repeat refine VW.seq ?_
   refine VW.block ?_
   refine VW.loop (α := Nat) [(8, none), (10, none)] (fun i => [D, D, D, D, D, D, D, D, .v false (.int .i64) ((S : Nat)), D, .v false (.int .i64) ((2 ^ i : Nat)), D, D, D, D, D, D, D, D, D, D, D, D, D, D, D, D, D, D, D, D, D, D, D, D, D, D, D, D, D, D, D, D, D, D, D, D, D, D]) (fun i => i = 0 ∨ 2 ^ (i - 1) < S) (fun i => 2 * S - 2 ^ i) ⟨0, .inl rfl, ?_⟩ fun i hi => ?_
   ·simp only [wn, wq, simprocAttr]
    try rfl
   have h2i : i = 0 ∨ 2 ^ i ≤ 2 * S := by
    rcases hi with rfl | hi
    ·exact .inl rfl
    ·refine .inr ?_
     cases i with
     | zero => simp; omega
     | succ i =>
      simp only [Nat.add_sub_cancel] at hi
      rw [Nat.pow_succ]
      omega
   repeat refine VW.seq ?_
   refine VW.regl hT fun K hK => ?_
   simp only [wq, simprocAttr]
   refine hK _ ?_
   clear hK K
   try refine vthen_n ?_
   repeat refine VW.seq ?_
   refine VW.cond rfl (fun hc => ?_) (fun hc => ?_)
   ·have hlt : 2 ^ i < S := by
     have : ((2 ^ i : Nat) : Int) < (S : Int) := of_decide_eq_true hc
     omega
    have hps : 2 ^ (i + 1) = 2 ^ i * 2 := Nat.pow_succ ..
    have hpp := Nat.two_pow_pos i
    refine VW.skip (vthen_n ?_)
    repeat refine VW.seq ?_
    refine VW.block ?_
    repeat refine VW.seq ?_
    refine VW.regl hT fun K hK => ?_
    simp only [wq, simprocAttr]
    refine hK _ ?_
    clear hK K
    try refine vthen_n ?_
    refine ⟨i + 1, .inr (by simpa using hlt), ?_, by show 2 * S - 2 ^ (i + 1) < 2 * S - 2 ^ i; omega⟩
    simp only [wn, wq, simprocAttr]
    rw [hps]
    generalize 2 ^ i = P at *
    rw [wrap64 (by omega) (by omega)]
    rfl
   ·have hge : S ≤ 2 ^ i := by
     have : ¬ ((2 ^ i : Nat) : Int) < (S : Int) := of_decide_eq_false hc
     omega
    have hup : (S = 0 ∧ 2 ^ i = 1 ∧ up S = 0) ∨ (1 ≤ S ∧ up S = 2 ^ i) := by
     rcases Nat.eq_zero_or_pos S with h0 | h0
     ·subst h0
      rcases hi with rfl | hi
      ·exact .inl ⟨rfl, rfl, rfl⟩
      ·exact absurd hi (Nat.not_lt_zero _)
     ·exact .inr ⟨h0, up_eq h0 hge hi⟩
    have hP : 1 ≤ 2 ^ i ∧ 2 ^ i ≤ 2176782336 := by
     refine ⟨Nat.two_pow_pos i, ?_⟩
     rcases h2i with rfl | h
     ·decide
     ·omega
    refine VW.exit ?_
    show vthen _ _ _ .normal _
    refine vthen_n ?_
    generalize 2 ^ i = P at *
    have hmul : S * P ≤ 1088391168 * 2176782336 := Nat.mul_le_mul (by omega) hP.2
    have hmul2 : (S : Int) * (P : Int) = ((S * P : Nat) : Int) := by rw [Int.natCast_mul]
    repeat refine VW.seq ?_
    refine VW.regl hT fun K hK => ?_
    simp only [wq, simprocAttr]
    rw [hmul2, wrap64 (by omega) (by omega)]
    refine hK _ ?_
    clear hK K
    try refine vthen_n ?_
    refine VW.ret ⟨.inl rfl, _, rfl, ?_⟩
    show PV.v false (.int .i64) (if ((S * P : Nat) : Int) < (P : Int) then ((S * P : Nat) : Int) else (P : Int)) = _
    rcases hup with ⟨h1, h2, h3⟩ | ⟨h1, h2⟩
    ·subst h1
     rw [h3, Nat.zero_mul, if_pos (by omega)]
    ·have : 1 * P ≤ S * P := Nat.mul_le_mul h1 (Nat.le_refl P)
     rw [h2, if_neg (by omega)]
end Go.Proofs.YtoeblmcibheldaaDoor.V.W
end
section
namespace Go.Proofs.YtoeblmcibheldaaDoor.V.W
open Go Go.RowKit
/-- the sizes, from the greatest down to nothing -/
def sz : Nat → Nat
 | 0 => 0
 | m + 1 => 2 ^ m
def atP (t : List Nd) (s : List Int) (k size i : Nat) : Nat := pos t s k + atS t s k size i
theorem atS_step {t : List Nd} {s : List Int} (hs : sizesOk t s = true) {k : Nat} : ∀ m : Nat, atS t s k (sz (m + 1)) t.length = atS t s k (sz m) 1
 | m + 1 => atS_next hs m
 | 0 => by
  unfold atS
  congr 1
  refine List.filter_congr fun a ha => ?_
  obtain ⟨j, rfl, h1, h2, h3, h4⟩ := kids_pos (sizesOk_iff.1 hs).1 ha
  rw [decide_eq_decide, Int.toNat_natCast]
  simp only [sz]
  omega
theorem dS_step {t : List Nd} {s : List Int} (hs : sizesOk t s = true) {k : Nat} {A : Nat → Bool} (m : Nat) : bars t s (dS t s k A (sz (m + 1)) t.length) = bars t s (dS t s k A (sz m) 1) := by
 refine bars_same t s fun i h1 h2 h3 => ?_
 have h4 : (decide (sz (m + 1) < win t s i) || (win t s i == sz (m + 1) && decide (i < t.length))) = (decide (sz m < win t s i) || (win t s i == sz m && decide (i < 1))) := by
  rw [Bool.eq_iff_iff]
  simp only [Bool.or_eq_true, Bool.and_eq_true, decide_eq_true_eq, beq_iff_eq]
  cases m with
  | zero => simp only [sz]; omega
  | succ m =>
   have := pow_lt_half (e := m) (win_pow hs h1)
   simp only [sz]
   omega
 unfold dS
 rw [h4]
theorem dS_first {t : List Nd} {s : List Int} {k : Nat} {A : Nat → Bool} (h : ∀ j, j < t.length → win t s j ≤ 65536) : bars t s A = bars t s (dS t s k A (sz 17) 1) := by
 refine bars_same t s fun i h1 h2 h3 => ?_
 have h4 : (decide (sz 17 < win t s i) || (win t s i == sz 17 && decide (i < 1))) = false := by
  have := h i h1
  rw [show sz 17 = 65536 from rfl, Bool.eq_false_iff]
  simp only [ne_eq, Bool.or_eq_true, Bool.and_eq_true, decide_eq_true_eq, beq_iff_eq]
  omega
 unfold dS
 rw [h4, Bool.and_false, Bool.or_false]
theorem fuel_step {n k i f : Nat} (h : n - k ≤ f + 1) (h2 : k < i) (h3 : i < n) : n - i ≤ f := by omega
theorem half_sz (m : Nat) (h : sz (m + 1) ≤ 65536) : IntKind.i64.wrap (Int.tdiv ((sz (m + 1) : Nat) : Int) 2) = ((sz m : Nat) : Int) := by
 cases m with
 | zero => rfl
 | succ m =>
  have h0 : (2 ^ m : Nat) * 2 = 2 ^ (m + 1) := (Nat.pow_succ ..).symm
  show IntKind.i64.wrap (Int.tdiv ((2 ^ (m + 1) : Nat) : Int) 2) = ((2 ^ m : Nat) : Int)
  have h1 : Int.tdiv ((2 ^ (m + 1) : Nat) : Int) 2 = ((2 ^ m : Nat) : Int) := by
   rw [← h0, Int.natCast_mul]
   exact Int.mul_tdiv_cancel _ (by decide)
  rw [h1]
  have h2 : sz (m + 1 + 1) ≤ 65536 := h
  have h2 : 2 ^ (m + 1) ≤ 65536 := h2
  generalize (2 ^ m : Nat) = P at *
  exact wrap64 (by omega) (by omega)
set_option maxRecDepth 20000 in
theorem place_vx {t : List Nd} {s : List Int} (hs : sizesOk t s = true) (h65 : win t s 0 ≤ 65536) : ∀ (f k : Nat) (A : Nat → Bool), t.length - k ≤ f → k < t.length → (A k = true ∨ k = 0 ∨ win t s k = 0) →
  VX Tryd.prog 73 [.v false sNS t, .root (.val false) sBS .own (bars t s A), .v false (.int .i64) ((k : Nat))] 1 (fun pv ot => pv = nil0 ∧ ∃ bs : List (Int × Int), (∃ E : Nat → Bool, bs = bars t s E ∧ (∀ j, A j = true → E j = true) ∧ ∀ j, Bel t k j → win t s j ≠ 0 → E j = true) ∧ ot = .root (.val false) sBS .own bs)
 := by
 intro f
 induction f with
 | zero =>
  intro k A hf hk hA
  omega
 | succ f ih =>
  intro k A hf hk hA
  have hok := (sizesOk_iff.1 hs).1
  have htl := treeOk_len hok
  have hbl := bars_len t s A
  have hpb := fun j (h : j < t.length) => pos_bd hok s j j (Nat.le_refl _) h
  have hw65 : ∀ j, j < t.length → win t s j ≤ 65536 := fun j h => by have := hpb j h; omega
  have hpk := hpb k hk
  refine VX.of_rows hT Tryd.func73 rfl (by kernel_rfl) [] (by kernel_rfl) rfl rfl (by show 0 < (bars t s A).length; omega) fun l fi li e1 e2 => ?_
  obtain ⟨n, cp, rfl, rfl⟩ := io1 e1 e2
  show VW _ _ ([.v false sNS t, .root (.val false) sBS (.io n cp) (bars t s A), .v false (.int .i64) ((k : Nat)), D, D, D, D, D, D, D, D, D, D, D, D, D, D, D, D, D, D, D, D, D, D, D, D, D, D, D, D, D, D, D, D, D, D, D, D, D, D, D, D, D, D, D, D, D, D, D, D, D, D, D, D, D, D, D, D, D, D, D, D, D, D, D, D, D, D, D, D, D, D, D, D, D, D, D, D, D, D, D]) _
  have hbk : (bars t s A).getD k zb = ((win t s k : Int), (pos t s k : Int)) := by
   rw [bars_get _ _ _ hk]
   rcases hA with h | rfl | h
   ·rw [if_pos h]
   ·rw [pos_root]; simp
   ·rw [pos_zero h]; simp
  have hA0 : bars t s A = bars t s (dS t s k A (sz 17) 1) := dS_first hw65
  have hat0 : pos t s k = atP t s k (sz 17) 1 := by
   unfold atP
   rw [atS_first hok (m := sz 17) (fun j h => hw65 j h)]
   rfl
  have hatl : ∀ size i, atP t s k size i ≤ 2200000000 := fun size i => by
   have h1 := atS_le t s k size i
   have h2 := ksum_lim hs hk
   unfold atP
   omega
  repeat refine VW.seq ?_
  refine VW.regl hT fun K hK => ?_
  simp only [wq, simprocAttr]
  refine ⟨decide_eq_true ⟨Int.natCast_nonneg _, by show (k : Int) < ((bars t s A).length : Int); omega⟩, ?_⟩
  rw [hbk]
  refine hK _ ?_
  clear hK K
  try refine vthen_n ?_
  repeat refine VW.seq ?_
  refine VW.regl hT fun K hK => ?_
  simp only [wq, simprocAttr]
  refine hK _ ?_
  clear hK K
  try refine vthen_n ?_
  repeat refine VW.seq ?_
  refine VW.block ?_
  refine VW.loop (α := Nat) [(0, none), (1, none), (2, none), (6, none), (7, none)] (fun m => [.v false sNS t, .root (.val false) sBS (.io n cp) (bars t s (dS t s k A (sz m) 1)), .v false (.int .i64) ((k : Nat)), D, D, D, .v false (.int .i64) ((atP t s k (sz m) 1 : Nat)), .v false (.int .i64) ((sz m : Nat)), D, D, D, D, D, D, D, D, D, D, D, D, D, D, D, D, D, D, D, D, D, D, D, D, D, D, D, D, D, D, D, D, D, D, D, D, D, D, D, D, D, D, D, D, D, D, D, D, D, D, D, D, D, D, D, D, D, D, D, D, D, D, D, D, D, D, D, D, D, D, D, D, D, D]) (fun m => m ≤ 17) (fun m => m) ⟨17, by omega, ?_⟩ fun m hm1 => ?_
  ·simp only [wn, wq, simprocAttr]
   rw [hA0, hat0]
   rfl
  repeat refine VW.seq ?_
  refine VW.regl hT fun K hK => ?_
  simp only [wq, simprocAttr]
  refine hK _ ?_
  clear hK K
  try refine vthen_n ?_
  repeat refine VW.seq ?_
  refine VW.cond rfl (fun hc => ?_) (fun hc => ?_)
  ·obtain ⟨m, rfl⟩ : ∃ m', m = m' + 1 := by
    cases m with
    | zero =>
     have : ((sz 0 : Nat) : Int) > 0 := of_decide_eq_true hc
     exact absurd this (by decide)
    | succ m => exact ⟨m, rfl⟩
   have hsz : sz (m + 1) ≤ 65536 := Nat.pow_le_pow_right (n := 2) (by omega) (show m ≤ 16 by omega)
   have hS0 : 0 < sz (m + 1) := Nat.two_pow_pos m
   refine VW.skip (vthen_n ?_)
   repeat refine VW.seq ?_
   refine VW.block ?_
   repeat refine VW.seq ?_
   refine VW.regl hT fun K hK => ?_
   simp only [wq, simprocAttr]
   refine hK _ ?_
   clear hK K
   try refine vthen_n ?_
   repeat refine VW.seq ?_
   refine VW.block ?_
   refine VW.loop (α := Nat) [(0, none), (1, none), (2, none), (6, none), (7, none), (8, none)] (fun i => [.v false sNS t, .root (.val false) sBS (.io n cp) (bars t s (dS t s k A (sz (m + 1)) i)), .v false (.int .i64) ((k : Nat)), D, D, D, .v false (.int .i64) ((atP t s k (sz (m + 1)) i : Nat)), .v false (.int .i64) ((sz (m + 1) : Nat)), .v false (.int .i64) ((i : Nat)), D, D, D, D, D, D, D, D, D, D, D, D, D, D, D, D, D, D, D, D, D, D, D, D, D, D, D, D, D, D, D, D, D, D, D, D, D, D, D, D, D, D, D, D, D, D, D, D, D, D, D, D, D, D, D, D, D, D, D, D, D, D, D, D, D, D, D, D, D, D, D, D, D]) (fun i => 1 ≤ i ∧ i ≤ t.length) (fun i => t.length - i) ⟨1, ⟨by omega, by omega⟩, ?_⟩ fun i ⟨hi1, hi⟩ => ?_
   ·simp only [wn, wq, simprocAttr]
    try rfl
   repeat refine VW.seq ?_
   refine VW.regl hT fun K hK => ?_
   simp only [wq, simprocAttr]
   refine hK _ ?_
   clear hK K
   try refine vthen_n ?_
   repeat refine VW.seq ?_
   refine VW.cond rfl (fun hc => ?_) (fun hc => ?_)
   ·have hlt : i < t.length := by simpa using hc
    generalize hS : sz (m + 1) = S at *
    have hbe := bars_len t s (dS t s k A S i)
    have hbg := bars_get t s (dS t s k A S i) hlt zb
    have hidx : decide (0 ≤ (i : Int) ∧ (i : Int) < (t.length : Int)) = true := decide_eq_true ⟨Int.natCast_nonneg _, by omega⟩
    have hidb : decide (0 ≤ (i : Int) ∧ (i : Int) < ((bars t s (dS t s k A S i)).length : Int)) = true := decide_eq_true ⟨Int.natCast_nonneg _, by omega⟩
    have hl1 := hatl S i
    have hl2 := hatl S (i + 1)
    refine VW.skip (vthen_n ?_)
    repeat refine VW.seq ?_
    refine VW.block ?_
    apply cutl
    ·intro tail
     repeat refine VW.seq ?_
     refine VW.regl hT fun K hK => ?_
     simp only [wq, simprocAttr]
     refine ⟨hidx, ?_⟩
     refine vbr (fun g => ?_) (fun g => ?_) <;> simp only [wq, simprocAttr]
     case refine_2 =>
      have g : ((t.getD i z).1 == (k : Int)) = false := g
      have g : (t.getD i z).1 ≠ (k : Int) := by simpa using g
      refine hK _ ?_
      try refine vthen_n ?_
      refine VW.cond rfl (fun hc => by cases hc) (fun hc => ?_)
      refine VW.skip ?_
      show vthen _ _ _ .normal _
      refine vthen_n ?_
      refine VW.weak (weak_norm [(0, none), (1, none), (2, none), (6, none), (7, none), (8, none)] _) ?_
      simp only [wn, wq, simprocAttr]
      rw [dS_miss (.inl g), show atP t s k S i = atP t s k S (i + 1) by unfold atP; rw [atS_miss (.inl g)]]
      exact tail.h
     have g : ((t.getD i z).1 == (k : Int)) = true := g
     have g : (t.getD i z).1 = (k : Int) := by simpa using g
     refine ⟨hidb, ?_⟩
     rw [hbg]
     refine hK _ ?_
     try refine vthen_n ?_
     refine VW.cond rfl (fun hc => ?_) (fun hc => ?_)
     ·have hw : win t s i = S := by
       have : ((win t s i : Nat) : Int) = (S : Int) := by simpa using hc
       omega
      have hset : (bars t s (dS t s k A S i)).set i (((win t s i : Int), if dS t s k A S i i = true then (pos t s i : Int) else 0).1, ((atP t s k S i : Nat) : Int)) = bars t s (dS t s k A S (i + 1)) := by
       rw [← dS_hit g hw, ← bars_set t s _ hlt, pos_eq hok hi1 hlt (by omega) g, ← atS_befs, hw]
       rfl
      have hat : atP t s k S (i + 1) = atP t s k S i + S := by
       unfold atP
       rw [atS_hit hlt g hw]
       omega
      repeat refine VW.seq ?_
      refine VW.regl hT fun K hK => ?_
      simp only [wq, simprocAttr]
      refine ⟨hidb, ?_⟩
      rw [hbg, hset]
      refine hK _ ?_
      try refine vthen_n ?_
      repeat refine VW.seq ?_
      refine VW.regl hT fun K hK => ?_
      simp only [wq, simprocAttr]
      rw [wrap64 (by omega) (by omega), show ((atP t s k S i : Nat) : Int) + (S : Int) = ((atP t s k S (i + 1) : Nat) : Int) by omega]
      refine hK _ ?_
      try refine vthen_n ?_
      show vthen _ _ _ .normal _
      refine vthen_n ?_
      refine VW.weak (weak_norm [(0, none), (1, none), (2, none), (6, none), (7, none), (8, none)] _) ?_
      simp only [wn, wq, simprocAttr]
      exact tail.h
     ·have hw : win t s i ≠ S := by
       have : ¬ ((win t s i : Nat) : Int) = (S : Int) := by simpa using hc
       omega
      refine VW.skip ?_
      show vthen _ _ _ .normal _
      refine vthen_n ?_
      refine VW.weak (weak_norm [(0, none), (1, none), (2, none), (6, none), (7, none), (8, none)] _) ?_
      simp only [wn, wq, simprocAttr]
      rw [dS_miss (.inr hw), show atP t s k S i = atP t s k S (i + 1) by unfold atP; rw [atS_miss (.inr hw)]]
      exact tail.h
    ·repeat refine VW.seq ?_
     refine VW.regl hT fun K hK => ?_
     simp only [wq, simprocAttr]
     refine hK _ ?_
     clear hK K
     try refine vthen_n ?_
     refine ⟨i + 1, ⟨by omega, by omega⟩, ?_, by show t.length - (i + 1) < t.length - i; omega⟩
     simp only [wn, wq, simprocAttr]
     rw [wrap64 (by omega) (by omega)]
     rfl
   ·have hge : i = t.length := by
     have : t.length ≤ i := by simpa using hc
     omega
    subst hge
    refine VW.exit ?_
    show vthen _ _ _ .normal _
    refine vthen_n ?_
    repeat refine VW.seq ?_
    refine VW.regl hT fun K hK => ?_
    simp only [wq, simprocAttr]
    refine ⟨by decide, ?_⟩
    refine hK _ ?_
    clear hK K
    try refine vthen_n ?_
    refine ⟨m, by omega, ?_, by show m < m + 1; omega⟩
    simp only [wn, wq, simprocAttr]
    rw [half_sz m hsz, dS_step hs m, show atP t s k (sz (m + 1)) t.length = atP t s k (sz m) 1 by unfold atP; rw [atS_step hs m]]
  ·have hm0 : m = 0 := by
    cases m with
    | zero => rfl
    | succ m =>
     have : ¬ ((sz (m + 1) : Nat) : Int) > 0 := of_decide_eq_false hc
     have h1 := Nat.two_pow_pos m
     have h2 : ((sz (m + 1) : Nat) : Int) > 0 := by show ((2 ^ m : Nat) : Int) > 0; omega
     exact absurd h2 this
   subst hm0
   refine VW.exit ?_
   show vthen _ _ _ .normal _
   refine vthen_n ?_
   repeat refine VW.seq ?_
   refine VW.regl hT fun K hK => ?_
   simp only [wq, simprocAttr]
   refine hK _ ?_
   clear hK K
   try refine vthen_n ?_
   repeat refine VW.seq ?_
   refine VW.block ?_
   refine VW.loop (α := Nat × (Nat → Bool)) [(0, none), (1, none), (2, none), (9, none)] (fun p => [.v false sNS t, .root (.val false) sBS (.io n cp) (bars t s p.2), .v false (.int .i64) ((k : Nat)), D, D, D, D, D, D, .v false (.int .i64) ((p.1 : Nat)), D, D, D, D, D, D, D, D, D, D, D, D, D, D, D, D, D, D, D, D, D, D, D, D, D, D, D, D, D, D, D, D, D, D, D, D, D, D, D, D, D, D, D, D, D, D, D, D, D, D, D, D, D, D, D, D, D, D, D, D, D, D, D, D, D, D, D, D, D, D, D, D]) (fun p => 1 ≤ p.1 ∧ p.1 ≤ t.length ∧ (∀ j, A j = true → p.2 j = true) ∧ (∀ j, 1 ≤ j → j < t.length → (t.getD j z).1 = (k : Int) → win t s j ≠ 0 → p.2 j = true) ∧ ∀ c, 1 ≤ c → c < p.1 → (t.getD c z).1 = (k : Int) → ∀ j, Bel t c j → win t s j ≠ 0 → p.2 j = true) (fun p => t.length - p.1) ⟨(1, dS t s k A (sz 0) 1), ⟨by omega, by omega, fun j h => by show (A j || _) = true; rw [h]; rfl, fun j h1 h2 h3 h4 => ?_, fun c h1 h2 => by omega⟩, ?_⟩ fun ⟨i, E⟩ ⟨hi1, hi, hE1, hE2, hE3⟩ => ?_
   ·show dS t s k A (sz 0) 1 j = true
    unfold dS
    rw [h3, show decide (sz 0 < win t s j) = true from decide_eq_true (by simp only [sz]; omega)]
    simp
   ·simp only [wn, wq, simprocAttr]
    try rfl
   have hi1 : 1 ≤ i := hi1
   have hi : i ≤ t.length := hi
   have hE1 : ∀ j, A j = true → E j = true := hE1
   have hE2 : ∀ j, 1 ≤ j → j < t.length → (t.getD j z).1 = (k : Int) → win t s j ≠ 0 → E j = true := hE2
   have hE3 : ∀ c, 1 ≤ c → c < i → (t.getD c z).1 = (k : Int) → ∀ j, Bel t c j → win t s j ≠ 0 → E j = true := hE3
   repeat refine VW.seq ?_
   refine VW.regl hT fun K hK => ?_
   simp only [wq, simprocAttr]
   refine hK _ ?_
   clear hK K
   try refine vthen_n ?_
   repeat refine VW.seq ?_
   refine VW.cond rfl (fun hc => ?_) (fun hc => ?_)
   ·have hlt : i < t.length := by simpa using hc
    have hbe := bars_len t s E
    have hbg := bars_get t s E hlt zb
    have hidx : decide (0 ≤ (i : Int) ∧ (i : Int) < (t.length : Int)) = true := decide_eq_true ⟨Int.natCast_nonneg _, by omega⟩
    have hidb : decide (0 ≤ (i : Int) ∧ (i : Int) < ((bars t s E).length : Int)) = true := decide_eq_true ⟨Int.natCast_nonneg _, by omega⟩
    have hgo : ∀ H : Nat → Bool, (∀ j, E j = true → H j = true) → ((t.getD i z).1 = (k : Int) → ∀ j, Bel t i j → win t s j ≠ 0 → H j = true) → 1 ≤ i + 1 ∧ i + 1 ≤ t.length ∧ (∀ j, A j = true → H j = true) ∧ (∀ j, 1 ≤ j → j < t.length → (t.getD j z).1 = (k : Int) → win t s j ≠ 0 → H j = true) ∧ ∀ c, 1 ≤ c → c < i + 1 → (t.getD c z).1 = (k : Int) → ∀ j, Bel t c j → win t s j ≠ 0 → H j = true := fun H q1 q2 => by
     refine ⟨by omega, by omega, fun j h => q1 j (hE1 j h), fun j h1 h2 h3 h4 => q1 j (hE2 j h1 h2 h3 h4), fun c h1 h2 h3 j h4 h5 => ?_⟩
     rcases Nat.lt_or_ge c i with h6 | h6
     ·exact q1 j (hE3 c h1 h6 h3 j h4 h5)
     ·obtain rfl : c = i := by omega
      exact q2 h3 j h4 h5
    refine VW.skip (vthen_n ?_)
    repeat refine VW.seq ?_
    refine VW.block ?_
    apply cutl
    ·intro tail
     repeat refine VW.seq ?_
     refine VW.regl hT fun K hK => ?_
     simp only [wq, simprocAttr]
     refine ⟨hidx, ?_⟩
     refine vbr (fun g => ?_) (fun g => ?_) <;> simp only [wq, simprocAttr]
     case refine_2 =>
      have g : ((t.getD i z).1 == (k : Int)) = false := g
      have g : (t.getD i z).1 ≠ (k : Int) := by simpa using g
      refine hK _ ?_
      try refine vthen_n ?_
      refine VW.cond rfl (fun hc => by cases hc) (fun hc => ?_)
      refine VW.skip ?_
      show vthen _ _ _ .normal _
      refine vthen_n ?_
      refine VW.weak (weak_norm [(0, none), (1, none), (2, none), (9, none)] _) ?_
      simp only [wn, wq, simprocAttr]
      have hnew := hgo E (fun j h => h) (fun h => absurd h g)
      revert hnew
      exact tail.h
     have g : ((t.getD i z).1 == (k : Int)) = true := g
     have g : (t.getD i z).1 = (k : Int) := by simpa using g
     refine ⟨hidx, ?_⟩
     refine vbr (fun g2 => ?_) (fun g2 => ?_) <;> simp only [wq, simprocAttr]
     case refine_2 =>
      have g2 : ((t.getD i z).2.2 == 0) = false := g2
      have g2 : ¬ (t.getD i z).2.2 = 0 := by simpa using g2
      refine hK _ ?_
      try refine vthen_n ?_
      refine VW.cond rfl (fun hc => by cases hc) (fun hc => ?_)
      refine VW.skip ?_
      show vthen _ _ _ .normal _
      refine vthen_n ?_
      refine VW.weak (weak_norm [(0, none), (1, none), (2, none), (9, none)] _) ?_
      simp only [wn, wq, simprocAttr]
      have hnew := hgo E (fun j h => h) (fun _ j h _ => absurd (bel_bridge hok h) g2)
      revert hnew
      exact tail.h
     refine ⟨hidb, ?_⟩
     rw [hbg]
     refine hK _ ?_
     try refine vthen_n ?_
     refine VW.cond rfl (fun hc => ?_) (fun hc => ?_)
     ·have hw : win t s i ≠ 0 := by
       have : ((win t s i : Nat) : Int) > 0 := of_decide_eq_true hc
       omega
      have hn := tree_node hok hi1 hlt
      rw [g] at hn
      repeat refine VW.seq ?_
      refine VW.regl hT fun K hK => ?_
      simp only [wq, simprocAttr]
      refine vcall_io 1 ?_
      simp only [wq, simprocAttr]
      have hal := ih i E (fuel_step hf (Int.ofNat_lt.1 hn.2.1) hlt) hlt (.inl (hE2 i hi1 hlt g hw))
      have hrec := tagE (agg := false) (s := sBS) (fi := .io n cp) (f0 := .own) (x := bars t s E) (l := [Value.slice (some ⟨n, 0, none⟩) (bars t s E).length cp]) hal rfl rfl rfl (fun y hy => by
       obtain ⟨H, q1, _⟩ := hy
       show some [Value.slice (some ⟨n, 0, none⟩) (List.length y) cp] = some [Value.slice (some ⟨n, 0, none⟩) (List.length (bars t s E)) cp]
       rw [q1, bars_len, bars_len])
      refine vxcall_ex hrec ?_
      rintro pv ot ⟨rfl, bs, ⟨H, rfl, q1, q2⟩, rfl⟩
      simp only [wq, simprocAttr]
      refine hK _ ?_
      clear hK K
      try refine vthen_n ?_
      show vthen _ _ _ .normal _
      refine vthen_n ?_
      repeat refine VW.seq ?_
      refine VW.regl hT fun K hK => ?_
      simp only [wq, simprocAttr]
      refine hK _ ?_
      clear hK K
      try refine vthen_n ?_
      refine ⟨(i + 1, H), hgo H q1 (fun _ => q2), ?_, by show t.length - (i + 1) < t.length - i; omega⟩
      simp only [wn, wq, simprocAttr]
      rw [wrap64 (by omega) (by omega)]
      rfl
     ·have hw : win t s i = 0 := by
       have : ¬ ((win t s i : Nat) : Int) > 0 := of_decide_eq_false hc
       omega
      refine VW.skip ?_
      show vthen _ _ _ .normal _
      refine vthen_n ?_
      refine VW.weak (weak_norm [(0, none), (1, none), (2, none), (9, none)] _) ?_
      simp only [wn, wq, simprocAttr]
      have hnew := hgo E (fun j h => h) (fun _ j h h2 => absurd (bel_win hok s h) (by omega))
      revert hnew
      exact tail.h
    ·intro hnew
     repeat refine VW.seq ?_
     refine VW.regl hT fun K hK => ?_
     simp only [wq, simprocAttr]
     refine hK _ ?_
     clear hK K
     try refine vthen_n ?_
     refine ⟨(i + 1, E), hnew, ?_, by show t.length - (i + 1) < t.length - i; omega⟩
     simp only [wn, wq, simprocAttr]
     rw [wrap64 (by omega) (by omega)]
     rfl
   ·have hge : i = t.length := by
     have : t.length ≤ i := by simpa using hc
     omega
    refine VW.exit ?_
    refine ⟨.inr rfl, _, _, _, _, rfl, ⟨1, _, rfl⟩, ?_, rfl, _, ⟨E, rfl, hE1, fun j h hw => ?_⟩, rfl⟩
    ·show some [Value.slice (some ⟨n, 0, none⟩) (List.length (bars t s E)) cp] = some [Value.slice (some ⟨n, 0, none⟩) (List.length (bars t s A)) cp]
     rw [bars_len, bars_len]
    ·obtain ⟨c, h1, h2, h3, h4⟩ := bel_cases h
     rcases h4 with rfl | h4
     ·exact hE2 _ h1 h2 h3 hw
     ·exact hE3 c h1 (by omega) h3 j h4 hw
end Go.Proofs.YtoeblmcibheldaaDoor.V.W
end
section
namespace Go.Proofs.YtoeblmcibheldaaDoor.V.W
open Go Go.RowKit
/-- the windows fit -/
def fits (t : List Nd) (s : List Int) : Bool := sizesOk t s && decide (win t s 0 ≤ 65536)
/-- the first i windows, none laid down -/
def rowsTo (t : List Nd) (s : List Int) (i : Nat) : List (Int × Int) := (List.range i).map fun j => ((win t s j : Int), (0 : Int))
theorem rowsTo_succ (t : List Nd) (s : List Int) (i : Nat) : rowsTo t s (i + 1) = rowsTo t s i ++ [((win t s i : Int), (0 : Int))] := by
 unfold rowsTo
 rw [List.range_succ, List.map_append]
 rfl
theorem rowsTo_len (t : List Nd) (s : List Int) (i : Nat) : (rowsTo t s i).length = i := by simp [rowsTo]
theorem rowsTo_all (t : List Nd) (s : List Int) : rowsTo t s t.length = bars t s fun _ => false := by
 unfold rowsTo bars
 simp
abbrev rBars (b : Bool) (x : List (Int × Int)) : PV := .root (.tup [false, false]) (.pr sBS .bool) (.pr .own .fz) (x, b)
set_option maxRecDepth 20000 in
theorem specAllocate_vc (t : List Nd) (s : List Int) (hl : t.length ≤ 2000000) (hs : s.length ≤ 2000000) : VC Tryd.prog 58 [.v false sNS t, .v false sI s] (fun pv => if fits t s = true then pv = rBars true (allBars t s) else ∃ x, pv = rBars false x) := by
 refine VC.of_body hT Tryd.func58 rfl (by kernel_rfl) [(.tmp 4, false, sBS), (.tmp 5, false, .bool)] (by kernel_rfl) ?_
 show VW _ _ ([.v false sNS t, .v false sI s, D, D, D, D, D, D, D, D, D, D, D, D, D, D, D, D, D, D, D, D, D, D, D, D, D, D, D, D, D, D, D, D, D, D, D, D]) _
 repeat refine VW.seq ?_
 refine VW.regl hT fun K hK => ?_
 simp only [wq, simprocAttr]
 refine hK _ ?_
 clear hK K
 try refine vthen_n ?_
 repeat refine VW.seq ?_
 refine VW.regl hT fun K hK => ?_
 simp only [wq, simprocAttr]
 refine vcall_of (specSizes_vc t s hl hs) ?_
 simp only [wq, simprocAttr]
 refine vbr (fun h => ?_) (fun h => ?_) <;> simp only [wq, simprocAttr]
 case refine_2 =>
  refine hK _ ?_
  clear hK K
  try refine vthen_n ?_
  repeat refine VW.seq ?_
  refine VW.cond rfl (fun hc => ?_) (fun hc => ?_)
  ·repeat refine VW.seq ?_
   refine VW.regl hT fun K hK => ?_
   simp only [wq, simprocAttr]
   refine hK _ ?_
   clear hK K
   try refine vthen_n ?_
   have h' : sizesOk t s = false := (Bool.not_eq_true' _).mp h
   refine VW.ret ⟨.inl rfl, _, rfl, ?_⟩
   rw [if_neg (by rw [fits, h', Bool.false_and]; decide)]
   exact ⟨_, rfl⟩
  ·cases hc
 have hok0 : sizesOk t s = true := by
  have := h
  rwa [Bool.not_eq_false'] at this
 have hok := (sizesOk_iff.1 hok0).1
 have htl := treeOk_len hok
 have hlim := win_lim hok0 (k := 0) (by omega)
 refine vcall_of (swin_vc hok0 t.length 0 (by omega) (by omega)) ?_
 simp only [wq, simprocAttr]
 refine hK _ ?_
 clear hK K
 try refine vthen_n ?_
 repeat refine VW.seq ?_
 refine VW.cond rfl (fun hc => ?_) (fun hc => ?_)
 ·have hc : ((win t s 0 : Nat) : Int) > 65536 := of_decide_eq_true hc
  have hf : fits t s = false := by rw [fits, decide_eq_false (by omega), Bool.and_false]
  repeat refine VW.seq ?_
  refine VW.regl hT fun K hK => ?_
  simp only [wq, simprocAttr]
  refine hK _ ?_
  clear hK K
  try refine vthen_n ?_
  refine VW.ret ⟨.inl rfl, _, rfl, ?_⟩
  rw [if_neg (by rw [hf]; decide)]
  exact ⟨_, rfl⟩
 have hc : ¬ ((win t s 0 : Nat) : Int) > 65536 := of_decide_eq_false hc
 have hf : fits t s = true := by rw [fits, hok0, decide_eq_true (by omega)]; rfl
 refine VW.skip (vthen_n ?_)
 repeat refine VW.seq ?_
 refine VW.regl hT fun K hK => ?_
 simp only [wq, simprocAttr]
 refine hK _ ?_
 clear hK K
 try refine vthen_n ?_
 repeat refine VW.seq ?_
 refine VW.regl hT fun K hK => ?_
 simp only [wq, simprocAttr]
 refine hK _ ?_
 clear hK K
 try refine vthen_n ?_
 repeat refine VW.seq ?_
 refine VW.block ?_
 refine VW.loop (α := Nat) [(0, none), (1, none), (6, some (126, sBr)), (7, none)] (fun i => [.v false sNS t, .v false sI s, D, D, D, D, .root (.val false) sBS .own (rowsTo t s i), .v false (.int .i64) ((i : Nat)), D, D, D, D, D, D, D, D, D, D, D, D, D, D, D, D, D, D, D, D, D, D, D, D, D, D, D, D, D, D]) (fun i => i ≤ t.length) (fun i => t.length - i) ⟨0, by omega, ?_⟩ fun i hi => ?_
 ·simp only [wn, wq, simprocAttr]
  try rfl
 repeat refine VW.seq ?_
 refine VW.regl hT fun K hK => ?_
 simp only [wq, simprocAttr]
 refine hK _ ?_
 clear hK K
 try refine vthen_n ?_
 repeat refine VW.seq ?_
 refine VW.cond rfl (fun hc => ?_) (fun hc => ?_)
 ·have hlt : i < t.length := by simpa using hc
  have hrl := rowsTo_len t s i
  refine VW.skip (vthen_n ?_)
  repeat refine VW.seq ?_
  refine VW.block ?_
  repeat refine VW.seq ?_
  refine VW.regl hT fun K hK => ?_
  simp only [wq, simprocAttr]
  refine vcall_of (swin_vc hok0 t.length i (by omega) (by omega)) ?_
  simp only [wq, simprocAttr]
  refine ⟨by simp [limOk, hrl]; omega, ?_⟩
  refine hK _ ?_
  clear hK K
  try refine vthen_n ?_
  repeat refine VW.seq ?_
  refine VW.regl hT fun K hK => ?_
  simp only [wq, simprocAttr]
  refine hK _ ?_
  clear hK K
  try refine vthen_n ?_
  refine ⟨i + 1, hlt, ?_, by show t.length - (i + 1) < t.length - i; omega⟩
  simp only [wn, wq, simprocAttr]
  rw [wrap64 (by omega) (by omega), rowsTo_succ]
  rfl
 ·have hge : i = t.length := by
   have : t.length ≤ i := by simpa using hc
   omega
  subst hge
  refine VW.exit ?_
  show vthen _ _ _ .normal _
  refine vthen_n ?_
  rw [rowsTo_all]
  repeat refine VW.seq ?_
  refine VW.regl hT fun K hK => ?_
  simp only [wq, simprocAttr]
  refine vcall_io 1 ?_
  simp only [wq, simprocAttr]
  refine vxcall_ex (place_vx hok0 (by omega) t.length 0 (fun _ => false) (by omega) (by omega) (.inr (.inl rfl))) ?_
  rintro pv ot ⟨rfl, bs, ⟨E, rfl, q1, q2⟩, rfl⟩
  simp only [wq, simprocAttr]
  rw [bars_all hok q2]
  refine hK _ ?_
  clear hK K
  try refine vthen_n ?_
  repeat refine VW.seq ?_
  refine VW.regl hT fun K hK => ?_
  simp only [wq, simprocAttr]
  refine hK _ ?_
  clear hK K
  try refine vthen_n ?_
  refine VW.ret ⟨.inl rfl, _, rfl, ?_⟩
  rw [if_pos hf]
end Go.Proofs.YtoeblmcibheldaaDoor.V.W
end
section
namespace Go.Proofs.YtoeblmcibheldaaDoor.V
open Go Go.RowKit
section
variable {P : Program}
end
end Go.Proofs.YtoeblmcibheldaaDoor.V
end
section
namespace Go.Proofs.YtoeblmcibheldaaDoor.V
open Go Go.RowKit
section
variable {P : Program} {T : List (Nat × TI)}
abbrev D0 : PV := .dead
end
end Go.Proofs.YtoeblmcibheldaaDoor.V
end
section
namespace Go.Proofs.YtoeblmcibheldaaDoor.V.W
open Go Go.RowKit
end Go.Proofs.YtoeblmcibheldaaDoor.V.W
end
section
namespace Go.Proofs.YtoeblmcibheldaaDoor.V.W
open Go Go.RowKit
abbrev sI3 : Sh := .pr sI (.pr sI sI)
abbrev I3 := List Int × List Int × List Int
def Len3 (n : Nat) (x : I3) : Prop := x.1.length = n ∧ x.2.1.length = n ∧ x.2.2.length = n
end Go.Proofs.YtoeblmcibheldaaDoor.V.W
end
section
namespace Go.Proofs.YtoeblmcibheldaaDoor.V.W
open Go Go.RowKit
abbrev rNum (fl : Fl) (x : I3) (b : Bool) : PV := .root (.tup [true, false]) (.pr sI3 .bool) (.pr fl .fz) (x, b)
end Go.Proofs.YtoeblmcibheldaaDoor.V.W
end
section
namespace Go.Proofs.YtoeblmcibheldaaDoor.V.W
open Go Go.RowKit
abbrev fI3 : Fl := .pr .own (.pr .own .own)
theorem io3 {x : I3} {l : List (Nat × Nat)} {fi : Fl} {li : List Value} (h : (tagF sI3 l).1 = fi) (k : encI sI3 fi x = some li) : ∃ n1 c1 n2 c2 n3 c3, fi = .pr (.io n1 c1) (.pr (.io n2 c2) (.io n3 c3)) ∧ li = [.slice (some ⟨n1, 0, none⟩) x.1.length c1, .slice (some ⟨n2, 0, none⟩) x.2.1.length c2, .slice (some ⟨n3, 0, none⟩) x.2.2.length c3] := by
 rcases l with _ | ⟨⟨n1, c1⟩, _ | ⟨⟨n2, c2⟩, _ | ⟨⟨n3, c3⟩, l⟩⟩⟩
 ·subst h; cases k
 ·subst h; cases k
 ·subst h; cases k
 ·subst h
  exact ⟨n1, c1, n2, c2, n3, c3, rfl, (Option.some.inj k).symm⟩
set_option maxRecDepth 20000 in
set_option maxHeartbeats 2000000 in
theorem svisit_vx {t : List Nd} (hok : treeOk t = true) : ∀ (f k : Nat), t.length - k ≤ f → k < t.length → ∀ (x : I3) (u : Nat), Len3 t.length x → u + subs t k ≤ 1000 →
  VX Tryd.prog 74 [.v false sNS t, .root (.val true) sI3 fI3 x, .v false (.int .i64) ((k : Nat)), .v false (.int .i64) ((u : Nat))] 1 (fun pv ot => pv = .v false (.int .i64) (((u + subs t k : Nat) : Int)) ∧ ∃ y : I3, Len3 t.length y ∧ ot = .root (.val true) sI3 fI3 y) := by
 have htl := treeOk_len hok
 intro f
 induction f with
 | zero =>
  intro k hf hk
  omega
 | succ f ih =>
  intro k hf hk x u hx hu
  obtain ⟨b0, s0, l0⟩ := x
  obtain ⟨hb0, hs0, hl0⟩ := hx
  have hb0 : b0.length = t.length := hb0
  have hs0 : s0.length = t.length := hs0
  have hl0 : l0.length = t.length := hl0
  have hperm := skids_perm hok hk
  have hcl : (skids t k).length ≤ 12 := by
   rw [hperm.length_eq]
   have := kids_len t k t.length
   omega
  have hsum : wsum (vis t) (skids t k) = subs t k := wsum_perm hperm
  refine VX.of_rows hT Tryd.func74 rfl (by kernel_rfl) [(.tmp 8, false, .int .i64)] (by kernel_rfl) rfl rfl ⟨by show 0 < b0.length; omega, by show 0 < s0.length; omega, by show 0 < l0.length; omega⟩ fun ll fi li e1 e2 => ?_
  obtain ⟨n1, c1, n2, c2, n3, c3, rfl, rfl⟩ := io3 e1 e2
  show VW _ _ ([.v false sNS t, .root (.val true) sI3 (.pr (.io n1 c1) (.pr (.io n2 c2) (.io n3 c3))) (b0, s0, l0), .v false (.int .i64) ((k : Nat)), .v false (.int .i64) ((u : Nat)), D, D, D, D, D, D, D, D, D, D, D, D, D, D, D, D, D, D, D, D, D, D, D, D, D, D, D, D, D, D, D, D, D, D, D, D, D, D, D, D, D, D, D, D, D, D, D, D, D, D, D, D, D, D, D, D, D, D, D, D, D]) _
  repeat refine VW.seq ?_
  refine VW.regl hT fun K hK => ?_
  simp only [wq, simprocAttr]
  refine hK _ ?_
  clear hK K
  try refine vthen_n ?_
  repeat refine VW.seq ?_
  refine VW.regl hT fun K hK => ?_
  simp only [wq, simprocAttr]
  refine vcall_of (specChildren_vc t k (by omega)) ?_
  generalize hL : skids t k = L at *
  simp only [wq, simprocAttr]
  refine hK _ ?_
  clear hK K
  try refine vthen_n ?_
  repeat refine VW.seq ?_
  refine VW.regl hT fun K hK => ?_
  simp only [wq, simprocAttr]
  refine hK _ ?_
  clear hK K
  try refine vthen_n ?_
  repeat refine VW.seq ?_
  refine VW.block ?_
  refine VW.loop (α := Nat × I3) [(0, none), (2, none), (3, none), (5, none), (9, none), (10, none)] (fun p => [.v false sNS t, D, .v false (.int .i64) ((k : Nat)), .v false (.int .i64) (((u + wsum (vis t) (L.take p.1) : Nat) : Int)), D, .root (.box 102) sI3 (.pr (.io n1 c1) (.pr (.io n2 c2) (.io n3 c3))) p.2, D, D, D, .root (.val false) sI .own L, .v false (.int .i64) ((p.1 : Nat)), D, D, D, D, D, D, D, D, D, D, D, D, D, D, D, D, D, D, D, D, D, D, D, D, D, D, D, D, D, D, D, D, D, D, D, D, D, D, D, D, D, D, D, D, D, D, D, D, D, D, D, D, D, D]) (fun p => p.1 ≤ L.length ∧ Len3 t.length p.2) (fun p => L.length - p.1) ⟨(0, b0, s0, l0), ⟨by omega, hb0, hs0, hl0⟩, ?_⟩ fun ⟨i, b, s, l⟩ ⟨hi, hb, hs, hl⟩ => ?_
  ·simp only [wn, wq, simprocAttr]
   try rfl
  have hi : i ≤ L.length := hi
  have hb : b.length = t.length := hb
  have hs : s.length = t.length := hs
  have hl : l.length = t.length := hl
  repeat refine VW.seq ?_
  refine VW.regl hT fun K hK => ?_
  simp only [wq, simprocAttr]
  refine hK _ ?_
  clear hK K
  try refine vthen_n ?_
  repeat refine VW.seq ?_
  refine VW.cond rfl (fun hc => ?_) (fun hc => ?_)
  ·have hlt : i < L.length := by simpa using hc
   obtain ⟨c, hc0, h1, h2, h3, h4⟩ := kids_pos hok (hperm.mem_iff.1 (getD_mem hlt))
   have hle := wsum_le (vis t) L (i + 1)
   have htk := wsum_take (vis t) hlt
   have hv := vis_eq hok h2
   rw [hc0, Int.toNat_natCast] at htk
   refine VW.skip (vthen_n ?_)
   repeat refine VW.seq ?_
   refine VW.block ?_
   have hiL : decide (0 ≤ (i : Int) ∧ (i : Int) < (L.length : Int)) = true := decide_eq_true ⟨Int.natCast_nonneg _, by omega⟩
   repeat refine VW.seq ?_
   refine VW.mixl hT hm 0 11 (by kernel_rfl) fun K hK => ?_
   simp only [wq, simprocAttr]
   refine ⟨by kernel_rfl, by kernel_rfl, by kernel_rfl, by kernel_rfl, hiL, by kernel_rfl, by kernel_rfl, by kernel_rfl, by kernel_rfl, decide_eq_true ⟨Int.natCast_nonneg _, by show (k : Int) < (s.length : Int); omega⟩, by kernel_rfl, decide_eq_true ?_, ?_⟩
   ·show 0 ≤ L.getD i 0 ∧ L.getD i 0 < (b.length : Int)
    rw [hc0]
    omega
   rw [show L.getD i 0 = (c : Int) from hc0]
   refine hK _ ?_
   clear hK K
   try refine vthen_n ?_
   have hb' : (b.set (Int.toNat (c : Int)) (s.getD k 0)).length = t.length := by rw [List.length_set]; exact hb
   generalize b.set (Int.toNat (c : Int)) (s.getD k 0) = b' at hb' ⊢
   clear hb
   repeat refine VW.seq ?_
   refine VW.regl hT fun K hK => ?_
   simp only [wq, simprocAttr]
   refine ⟨hiL, ?_⟩
   rw [show L.getD i 0 = (c : Int) from hc0]
   refine ⟨decide_eq_true ⟨Int.natCast_nonneg _, by show (c : Int) < (t.length : Int); omega⟩, ?_⟩
   refine hK _ ?_
   clear hK K
   try refine vthen_n ?_
   generalize hU : u + wsum (vis t) (L.take i) = U at *
   repeat refine VW.seq ?_
   refine VW.cond rfl (fun hc => ?_) (fun hc => ?_)
   ·have hbr : (t.getD c z).2.2 = 0 := by simpa using hc
    rw [if_pos hbr] at hv
    repeat refine VW.seq ?_
    refine VW.regl hT fun K hK => ?_
    simp only [wq, simprocAttr]
    refine hK _ ?_
    clear hK K
    try refine vthen_n ?_
    rw [wrap64 (by omega) (by omega), show (U : Int) + 1 = ((U + 1 : Nat) : Int) by omega]
    refine VW.weak (weak_norm [(0, none), (2, none), (3, none), (5, none), (9, none), (10, none)] _) ?_
    simp only [wn, wq, simprocAttr]
    repeat refine VW.seq ?_
    refine VW.mixl hT hm 0 7 (by kernel_rfl) fun K hK => ?_
    simp only [wq, simprocAttr]
    refine ⟨by kernel_rfl, by kernel_rfl, by kernel_rfl, by kernel_rfl, hiL, by kernel_rfl, decide_eq_true ?_, ?_⟩
    ·show 0 ≤ L.getD i 0 ∧ L.getD i 0 < (s.length : Int)
     rw [hc0]
     omega
    rw [show L.getD i 0 = (c : Int) from hc0]
    refine hK _ ?_
    clear hK K
    try refine vthen_n ?_
    have hs' : (s.set (Int.toNat (c : Int)) ((U + 1 : Nat) : Int)).length = t.length := by rw [List.length_set]; exact hs
    generalize s.set (Int.toNat (c : Int)) ((U + 1 : Nat) : Int) = s' at hs' ⊢
    clear hs
    refine VW.weak (weak_norm [(0, none), (2, none), (3, none), (5, none), (9, none), (10, none)] _) ?_
    simp only [wn, wq, simprocAttr]
    repeat refine VW.seq ?_
    refine VW.mixl hT hm 0 7 (by kernel_rfl) fun K hK => ?_
    simp only [wq, simprocAttr]
    refine ⟨by kernel_rfl, by kernel_rfl, by kernel_rfl, hiL, by kernel_rfl, ?_⟩
    rw [show L.getD i 0 = (c : Int) from hc0]
    refine vcall_io 1 ?_
    simp only [wq, simprocAttr]
    have hal := ih c (by omega) h2 (b', s', l) (U + 1) ⟨hb', hs', hl⟩ (by omega)
    have hrec := tagE (agg := true) (s := sI3) (fi := .pr (.io n1 c1) (.pr (.io n2 c2) (.io n3 c3))) (f0 := fI3) (x := (b', s', l)) (l := [.slice (some ⟨n1, 0, none⟩) b'.length c1, .slice (some ⟨n2, 0, none⟩) s'.length c2, .slice (some ⟨n3, 0, none⟩) l.length c3]) hal rfl rfl rfl (fun y hy => by
     obtain ⟨y1, y2, y3⟩ := hy
     show some [Value.slice (some ⟨n1, 0, none⟩) y.1.length c1, Value.slice (some ⟨n2, 0, none⟩) y.2.1.length c2, Value.slice (some ⟨n3, 0, none⟩) y.2.2.length c3] = some _
     rw [y1, y2, y3, hb', hs', hl])
    refine vxcall_ex hrec ?_
    rintro pv ot ⟨rfl, ⟨b2, s2, l2⟩, ⟨g1, g2, g3⟩, rfl⟩
    simp only [wq, simprocAttr]
    refine hK _ ?_
    clear hK K
    try refine vthen_n ?_
    show vthen _ _ _ .normal _
    refine vthen_n ?_
    repeat refine VW.seq ?_
    refine VW.regl hT fun K hK => ?_
    simp only [wq, simprocAttr]
    refine hK _ ?_
    clear hK K
    try refine vthen_n ?_
    rw [show U + 1 + subs t c = u + wsum (vis t) (L.take (i + 1)) by omega]
    refine ⟨(i + 1, b2, s2, l2), ⟨hlt, g1, g2, g3⟩, ?_, by show L.length - (i + 1) < L.length - i; omega⟩
    simp only [wn, wq, simprocAttr]
    rw [wrap64 (by omega) (by omega)]
    rfl
   ·have hbr : ¬ (t.getD c z).2.2 = 0 := by simpa using hc
    rw [if_neg hbr] at hv
    refine VW.skip ?_
    show vthen _ _ _ .normal _
    refine vthen_n ?_
    repeat refine VW.seq ?_
    refine VW.regl hT fun K hK => ?_
    simp only [wq, simprocAttr]
    refine hK _ ?_
    clear hK K
    try refine vthen_n ?_
    rw [show U = u + wsum (vis t) (L.take (i + 1)) by omega]
    refine ⟨(i + 1, b', s, l), ⟨hlt, hb', hs, hl⟩, ?_, by show L.length - (i + 1) < L.length - i; omega⟩
    simp only [wn, wq, simprocAttr]
    rw [wrap64 (by omega) (by omega)]
    rfl
  ·have hge : i = L.length := by
    have : L.length ≤ i := by simpa using hc
    omega
   subst hge
   refine VW.exit ?_
   show vthen _ _ _ .normal _
   refine vthen_n ?_
   rw [List.take_length, hsum]
   repeat refine VW.seq ?_
   refine VW.regl hT fun K hK => ?_
   simp only [wq, simprocAttr]
   refine ⟨decide_eq_true ⟨Int.natCast_nonneg _, by show (k : Int) < (l.length : Int); omega⟩, ?_⟩
   refine hK _ ?_
   clear hK K
   try refine vthen_n ?_
   repeat refine VW.seq ?_
   refine VW.regl hT fun K hK => ?_
   simp only [wq, simprocAttr]
   refine hK _ ?_
   clear hK K
   try refine vthen_n ?_
   have hl2 : (l.set k ((u + subs t k : Nat) : Int)).length = t.length := by rw [List.length_set]; exact hl
   refine VW.ret ⟨.inl rfl, _, _, _, _, rfl, ⟨5, _, rfl⟩, ?_, rfl, (b, s, l.set k ((u + subs t k : Nat) : Int)), ⟨hb, hs, hl2⟩, rfl⟩
   show some [Value.slice (some ⟨n1, 0, none⟩) b.length c1, Value.slice (some ⟨n2, 0, none⟩) s.length c2, Value.slice (some ⟨n3, 0, none⟩) (l.set k ((u + subs t k : Nat) : Int)).length c3] = some [Value.slice (some ⟨n1, 0, none⟩) b0.length c1, Value.slice (some ⟨n2, 0, none⟩) s0.length c2, Value.slice (some ⟨n3, 0, none⟩) l0.length c3]
   rw [hb, hs, hl2, hb0, hs0, hl0]
end Go.Proofs.YtoeblmcibheldaaDoor.V.W
end
section
namespace Go.Proofs.YtoeblmcibheldaaDoor.V.W
open Go Go.RowKit
set_option maxRecDepth 20000 in
set_option maxHeartbeats 1000000 in
theorem specEnum_vc (t : List Nd) (hl : t.length ≤ 2000000) : VC Tryd.prog 59 [.v false sNS t] (fun pv => if treeOk t = true then ∃ x, pv = rNum (.pr .own (.pr .own .own)) x true else pv = rNum .own ([], [], []) false) := by
 refine VC.of_body hT Tryd.func59 rfl (by kernel_rfl) [(.cell 2 102, true, sI3), (.tmp 3, false, .bool)] (by kernel_rfl) ?_
 show VW _ _ ([.v false sNS t, D, D, D, D, D, D, D, D, D, D, D, D, D, D, D, D, D, D, D, D, D, D, D, D, D, D, D, D, D, D, D, D, D, D, D, D, D, D, D, D, D, D, D]) _
 repeat refine VW.seq ?_
 refine VW.regl hT fun K hK => ?_
 simp only [wq, Nat.reduceMul, reduceCtorEq, Nat.reduceBEq, Nat.reduceAdd, Nat.reduceLT, Nat.reduceLeDiff, Nat.reduceSub, Nat.reduceEqDiff]
 refine hK _ ?_
 clear hK K
 try refine vthen_n ?_
 repeat refine VW.seq ?_
 refine VW.regl hT fun K hK => ?_
 simp only [wq, Nat.reduceMul, reduceCtorEq, Nat.reduceBEq, Nat.reduceAdd, Nat.reduceLT, Nat.reduceLeDiff, Nat.reduceSub, Nat.reduceEqDiff]
 refine vcall_of (specTreeOk_vc t hl) ?_
 simp only [wq, Nat.reduceMul, reduceCtorEq, Nat.reduceBEq, Nat.reduceAdd, Nat.reduceLT, Nat.reduceLeDiff, Nat.reduceSub, Nat.reduceEqDiff]
 refine hK _ ?_
 clear hK K
 try refine vthen_n ?_
 repeat refine VW.seq ?_
 refine VW.cond rfl (fun hc => ?_) (fun hc => ?_)
 ·repeat refine VW.seq ?_
  refine VW.regl hT fun K hK => ?_
  simp only [wq, Nat.reduceMul, reduceCtorEq, Nat.reduceBEq, Nat.reduceAdd, Nat.reduceLT, Nat.reduceLeDiff, Nat.reduceSub, Nat.reduceEqDiff]
  refine hK _ ?_
  clear hK K
  try refine vthen_n ?_
  refine VW.ret ⟨.inl rfl, _, rfl, ?_⟩
  have h' : treeOk t = false := (Bool.not_eq_true' _).mp hc
  rw [if_neg (by rw [h']; decide)]
 have hok : treeOk t = true := by
  have := hc
  rwa [Bool.not_eq_false'] at this
 have htl := treeOk_len hok
 refine VW.skip (vthen_n ?_)
 repeat refine VW.seq ?_
 refine VW.regl hT fun K hK => ?_
 simp only [wq, Nat.reduceMul, reduceCtorEq, Nat.reduceBEq, Nat.reduceAdd, Nat.reduceLT, Nat.reduceLeDiff, Nat.reduceSub, Nat.reduceEqDiff]
 refine hK _ ?_
 clear hK K
 try refine vthen_n ?_
 repeat refine VW.seq ?_
 refine VW.regl hT fun K hK => ?_
 simp only [wq, Nat.reduceMul, reduceCtorEq, Nat.reduceBEq, Nat.reduceAdd, Nat.reduceLT, Nat.reduceLeDiff, Nat.reduceSub, Nat.reduceEqDiff]
 refine hK _ ?_
 clear hK K
 try refine vthen_n ?_
 refine VW.retag (ι := Unit) (g := 4) (fun _ => fI3) _ rfl (fun w Z cs B h => ⟨(), h⟩) (fun j => by simp only [wq, Nat.reduceMul, reduceCtorEq, Nat.reduceBEq, Nat.reduceAdd, Nat.reduceLT, Nat.reduceLeDiff, Nat.reduceSub, Nat.reduceEqDiff]; rfl) (fun _ => ?_)
 repeat refine VW.seq ?_
 refine VW.block ?_
 refine VW.loop (α := Nat × I3) [(0, none), (2, none), (4, none), (5, none)] (fun p => [.v false sNS t, D, .root (.box 102) sI3 .own ([], [], []), D, .root (.box 102) sI3 fI3 p.2, .v false (.int .i64) ((p.1 : Nat)), D, D, D, D, D, D, D, D, D, D, D, D, D, D, D, D, D, D, D, D, D, D, D, D, D, D, D, D, D, D, D, D, D, D, D, D, D, D]) (fun p => p.1 ≤ t.length ∧ Len3 p.1 p.2) (fun p => t.length - p.1) ⟨(0, [], [], []), ⟨by omega, rfl, rfl, rfl⟩, ?_⟩ fun ⟨i, b, s, l⟩ ⟨hi, hb, hs, hl⟩ => ?_
 ·simp only [wn, wq, Nat.reduceMul, reduceCtorEq, Nat.reduceBEq, Nat.reduceAdd, Nat.reduceLT, Nat.reduceLeDiff, Nat.reduceSub, Nat.reduceEqDiff]
  try rfl
 have hi : i ≤ t.length := hi
 have hb : b.length = i := hb
 have hs : s.length = i := hs
 have hl : l.length = i := hl
 repeat refine VW.seq ?_
 refine VW.regl hT fun K hK => ?_
 simp only [wq, Nat.reduceMul, reduceCtorEq, Nat.reduceBEq, Nat.reduceAdd, Nat.reduceLT, Nat.reduceLeDiff, Nat.reduceSub, Nat.reduceEqDiff]
 refine hK _ ?_
 clear hK K
 try refine vthen_n ?_
 repeat refine VW.seq ?_
 refine VW.cond rfl (fun hc => ?_) (fun hc => ?_)
 ·have hlt : i < t.length := by simpa using hc
  refine VW.skip (vthen_n ?_)
  repeat refine VW.seq ?_
  refine VW.block ?_
  repeat refine VW.seq ?_
  refine VW.regl hT fun K hK => ?_
  simp only [wq, Nat.reduceMul, reduceCtorEq, Nat.reduceBEq, Nat.reduceAdd, Nat.reduceLT, Nat.reduceLeDiff, Nat.reduceSub, Nat.reduceEqDiff]
  refine ⟨by simp [limOk]; omega, ?_⟩
  refine hK _ ?_
  clear hK K
  try refine vthen_n ?_
  repeat refine VW.seq ?_
  refine VW.regl hT fun K hK => ?_
  simp only [wq, Nat.reduceMul, reduceCtorEq, Nat.reduceBEq, Nat.reduceAdd, Nat.reduceLT, Nat.reduceLeDiff, Nat.reduceSub, Nat.reduceEqDiff]
  refine ⟨by simp [limOk]; omega, ?_⟩
  refine hK _ ?_
  clear hK K
  try refine vthen_n ?_
  repeat refine VW.seq ?_
  refine VW.regl hT fun K hK => ?_
  simp only [wq, Nat.reduceMul, reduceCtorEq, Nat.reduceBEq, Nat.reduceAdd, Nat.reduceLT, Nat.reduceLeDiff, Nat.reduceSub, Nat.reduceEqDiff]
  refine ⟨by simp [limOk]; omega, ?_⟩
  refine hK _ ?_
  clear hK K
  try refine vthen_n ?_
  repeat refine VW.seq ?_
  refine VW.regl hT fun K hK => ?_
  simp only [wq, Nat.reduceMul, reduceCtorEq, Nat.reduceBEq, Nat.reduceAdd, Nat.reduceLT, Nat.reduceLeDiff, Nat.reduceSub, Nat.reduceEqDiff]
  refine hK _ ?_
  clear hK K
  try refine vthen_n ?_
  refine ⟨(i + 1, b ++ [0], s ++ [-1], l ++ [-1]), ⟨hlt, by show (b ++ [0]).length = i + 1; simp [hb], by show (s ++ [-1]).length = i + 1; simp [hs], by show (l ++ [-1]).length = i + 1; simp [hl]⟩, ?_, by show t.length - (i + 1) < t.length - i; omega⟩
  simp only [wn, wq, Nat.reduceMul, reduceCtorEq, Nat.reduceBEq, Nat.reduceAdd, Nat.reduceLT, Nat.reduceLeDiff, Nat.reduceSub, Nat.reduceEqDiff]
  rw [wrap64 (by omega) (by omega)]
  try rfl
 ·have hge : i = t.length := by
   have : t.length ≤ i := by simpa using hc
   omega
  subst hge
  have hs0 := subs_root hok
  refine VW.exit ?_
  show vthen _ _ _ .normal _
  refine vthen_n ?_
  repeat refine VW.seq ?_
  refine VW.regl hT fun K hK => ?_
  simp only [wq, Nat.reduceMul, reduceCtorEq, Nat.reduceBEq, Nat.reduceAdd, Nat.reduceLT, Nat.reduceLeDiff, Nat.reduceSub, Nat.reduceEqDiff]
  refine ⟨decide_eq_true ⟨by decide, by show (0 : Int) < (b.length : Int); omega⟩, ?_⟩
  refine hK _ ?_
  clear hK K
  try refine vthen_n ?_
  repeat refine VW.seq ?_
  refine VW.regl hT fun K hK => ?_
  simp only [wq, Nat.reduceMul, reduceCtorEq, Nat.reduceBEq, Nat.reduceAdd, Nat.reduceLT, Nat.reduceLeDiff, Nat.reduceSub, Nat.reduceEqDiff]
  refine ⟨decide_eq_true ⟨by decide, by show (0 : Int) < (s.length : Int); omega⟩, ?_⟩
  refine hK _ ?_
  clear hK K
  try refine vthen_n ?_
  have hb' : (b.set (Int.toNat 0) (-1)).length = t.length := by rw [List.length_set]; exact hb
  have hs' : (s.set (Int.toNat 0) 0).length = t.length := by rw [List.length_set]; exact hs
  generalize b.set (Int.toNat 0) (-1) = b' at hb' ⊢
  generalize s.set (Int.toNat 0) 0 = s' at hs' ⊢
  repeat refine VW.seq ?_
  refine VW.regl hT fun K hK => ?_
  simp only [wq, Nat.reduceMul, reduceCtorEq, Nat.reduceBEq, Nat.reduceAdd, Nat.reduceLT, Nat.reduceLeDiff, Nat.reduceSub, Nat.reduceEqDiff]
  refine vcall_io 1 ?_
  simp only [wq, Nat.reduceMul, reduceCtorEq, Nat.reduceBEq, Nat.reduceAdd, Nat.reduceLT, Nat.reduceLeDiff, Nat.reduceSub, Nat.reduceEqDiff]
  refine vxcall_ex (svisit_vx hok t.length 0 (by omega) (by omega) (b', s', l) 0 ⟨hb', hs', hl⟩ (by omega)) ?_
  rintro pv ot ⟨rfl, x, hx, rfl⟩
  simp only [wq, Nat.reduceMul, reduceCtorEq, Nat.reduceBEq, Nat.reduceAdd, Nat.reduceLT, Nat.reduceLeDiff, Nat.reduceSub, Nat.reduceEqDiff]
  refine hK _ ?_
  clear hK K
  try refine vthen_n ?_
  repeat refine VW.seq ?_
  refine VW.cond rfl (fun hc => ?_) (fun hc => ?_)
  ·have hc : ((subs t 0 : Nat) : Int) > 15 := of_decide_eq_true hc
   omega
  refine VW.skip (vthen_n ?_)
  repeat refine VW.seq ?_
  refine VW.regl hT fun K hK => ?_
  simp only [wq, Nat.reduceMul, reduceCtorEq, Nat.reduceBEq, Nat.reduceAdd, Nat.reduceLT, Nat.reduceLeDiff, Nat.reduceSub, Nat.reduceEqDiff]
  refine hK _ ?_
  clear hK K
  try refine vthen_n ?_
  refine VW.ret ⟨.inl rfl, _, rfl, ?_⟩
  rw [if_pos hok]
  exact ⟨x, rfl⟩
end Go.Proofs.YtoeblmcibheldaaDoor.V.W
end
section
namespace Go.Proofs.YtoeblmcibheldaaDoor.V.W
open Go Go.RowKit
def _root_.Go.Proofs.YtoeblmcibheldaaDoor.V.Sh.scal : Sh → Bool
 | .int _ => true
 | .bool => true
 | .unit => true
 | .pr a b => a.scal && b.scal
 | _ => false
theorem eqv_eq : ∀ {s : Sh} {x y : s.ty}, s.scal = true → (eqv s x y = true ↔ x = y)
 | .unit, _, _, _ => ⟨fun _ => rfl, fun _ => rfl⟩
 | .int _, x, y, _ => by simp [eqv]
 | .bool, x, y, _ => by simp [eqv]
 | .pr a b, x, y, h => by
  simp only [Sh.scal, Bool.and_eq_true] at h
  simp only [eqv, Bool.and_eq_true, eqv_eq h.1, eqv_eq h.2]
  exact ⟨fun ⟨p, q⟩ => Prod.ext p q, fun e => by rw [e]; exact ⟨rfl, rfl⟩⟩
end Go.Proofs.YtoeblmcibheldaaDoor.V.W
end
section
namespace Go.Proofs.YtoeblmcibheldaaDoor.V.W
open Go Go.RowKit
end Go.Proofs.YtoeblmcibheldaaDoor.V.W
end
section
namespace Go.Proofs.YtoeblmcibheldaaDoor.V.W
open Go Go.RowKit
abbrev sG : Sh := .sl 4 .bool
abbrev sFi : Sh := .pr (.sl 86 (.pr (.int .i64) (.pr (.int .i64) (.int .i64)))) (.pr (.sl 3 (.int .i64)) (.pr (.sl 126 (.pr (.int .i64) (.int .i64))) (.pr (.sl 43 (.sl 3 (.int .i64))) sG)))
abbrev Fab := List (Int × Int × Int) × List Int × List (Int × Int) × List (List Int) × List Bool
structure FabB (x : Fab) : Prop where
 a : x.1.length * 24 ≤ 140737488351232
 b : x.2.1.length * 8 ≤ 140737488351232
 c : x.2.2.1.length * 16 ≤ 140737488351232
 d : x.2.2.2.1.length * 24 ≤ 140737488351232
 e : ∀ k, (x.2.2.2.1.getD k []).length * 8 ≤ 140737488351232
 f : x.2.2.2.2.length * 1 ≤ 140737488351232
/-- what two levels of rows hold -/
def tot (xs : List (List Int)) (i : Nat) : Nat := ((xs.take i).map List.length).sum
end Go.Proofs.YtoeblmcibheldaaDoor.V.W
end
section
namespace Go.Proofs.YtoeblmcibheldaaDoor.V
open Go Go.RowKit
/-- what is listed, as a number -/
def arr (n m : Nat) : Array Bool := Array.ofFn (n := n) fun i => m.testBit i
theorem arr_size (n m : Nat) : (arr n m).size = n := by simp [arr]
theorem arr_get (n m j : Nat) : (arr n m).getD j false = (decide (j < n) && m.testBit j) := by
 by_cases h : j < n
 ·simp [arr, Array.getD, h]
 ·simp [arr, Array.getD, h]
theorem arr_el {n m j : Nat} (h : j < (arr n m).size) : (arr n m)[j] = m.testBit j := by simp [arr]
theorem arr_set {n m i : Nat} (hi : i < n) : (arr n m).setIfInBounds i true = arr n (m ||| 2 ^ i) := by
 apply Array.ext
 ·rw [Array.size_setIfInBounds, arr_size, arr_size]
 ·intro j h1 h2
  have h3 : j < (arr n m).size := by rw [arr_size]; rwa [arr_size] at h2
  rw [Array.getElem_setIfInBounds h3, arr_el h2, Nat.testBit_or]
  by_cases e : i = j
  ·subst e; simp
  ·rw [arr_size] at h2
   rw [if_neg e, arr_el (by rw [arr_size]; exact h2), Nat.testBit_two_pow_of_ne e, Bool.or_false]
def chk (ops : Array Oper) (m : Nat) (ps : List (Nat × Nat)) : Bool := (Region.ready .any ops (arr ops.size m) == ps.map (·.1)) && ps.all fun p => (m ||| 2 ^ p.1 == p.2)
def takeChk (ops : Array Oper) (m i m' : Nat) : Bool := Region.noSelect ops && (Region.free .any ops (arr ops.size m) i && ((Region.ready .any ops (arr ops.size m)).contains i && (m ||| 2 ^ i == m')))
def twoChk (ops : Array Oper) (m i j m' : Nat) : Bool := (Region.ready .any ops (arr ops.size m) == [i]) && ((Region.ready .any ops (arr ops.size (m ||| 2 ^ i)) == [j]) && (m ||| 2 ^ i ||| 2 ^ j == m'))
def doneChk (ops : Array Oper) (m : Nat) : Bool := Region.ready .any ops (arr ops.size m) == []
section
variable {P : Program} {T : List (Nat × TI)} {ops : Array Oper}
/-- one operation -/
def vone (P : Program) (T : List (Nat × TI)) (ops : Array Oper) (i : Nat) (st0 : St) (K : St → Prop) : Prop :=
 match ops[i]? with
 | some o => @vguard st0 ops o ⟨fun run st => match run with
  | true => @vread P T st o ⟨fun st1 pv => nonroot st1 o.dst = true ∧ K (setD st1 o.dst pv)⟩
  | false => nonroot st o.dst = true ∧ K (setD st o.dst skipPV)⟩
 | none => True
def vpure (ops : Array Oper) (i : Nat) (st : St) (K : St → Prop) : Prop :=
 match ops[i]? with
 | some o => @vfloat (pureOp st o) ⟨fun pv => nonroot st o.dst = true ∧ K (setD st o.dst pv)⟩
 | none => True
def popped : Option Out → Bool
 | some _ => true
 | none => false
def isFld (st : St) (o : Oper) : Bool := match o.guard with
 | some _ => false
 | none => match o.op with
  | .fieldAddr _ x _ => match ref st x with
   | .adr _ _ => true
   | _ => false
  | _ => false
def vfld (P : Program) (T : List (Nat × TI)) (ops : Array Oper) (i : Nat) (st : St) (K : St → Prop) : Prop :=
 match ops[i]? with
 | some o => isFld st o = true ∧ popped (pop T st st o) = true ∧ @vread P T st o ⟨fun st1 pv => nonroot st1 o.dst = true ∧ K (setD st1 o.dst pv)⟩
 | none => True
def vall (P : Program) (T : List (Nat × TI)) (ops : Array Oper) (W : Nat → St → Prop) (st : St) : List (Nat × Nat) → Prop
 | [] => True
 | p :: r => vone P T ops p.1 st (W p.2) ∧ vall P T ops W st r
/-- two operations, one behind the other, the first without effect -/
def Does2 (P : Program) (o1 o2 : Oper) (st st' : St) : Prop := ∀ (L : Lay) (a : Act) (w : World) (next : Act → World → Prop) (Q : Exit → Act → World → Prop), Rel L st a w Free → (∀ L' a' w', Stp L L' w w' → Rel L' st' a' w' Free → next a' w') → ∃ v, (execOp a.eval o1).run P w = .ok (.value v) w ∧ o2.wp P (a.put o1.dst v) w next Q
/-- how one goes on in a region in any order -/
structure Ruled (P : Program) (T : List (Nat × TI)) (ops : Array Oper) (K : St → Prop) (W : Nat → St → Prop) : Prop where
 done : ∀ (m : Nat) (st : St), doneChk ops m = true → K st → W m st
 all : ∀ (m : Nat) (ps : List (Nat × Nat)) (st : St), chk ops m ps = true → ps ≠ [] → vall P T ops W st ps → W m st
 take : ∀ (m i m' : Nat) (st : St), takeChk ops m i m' = true → vpure ops i st (W m') → W m st
 takeF : ∀ (m i m' : Nat) (st : St), takeChk ops m i m' = true → vfld P T ops i st (W m') → W m st
 two : ∀ (m i j m' : Nat) (st st' : St) (o1 o2 : Oper), ops[i]? = some o1 → ops[j]? = some o2 → o1.guard = none → o2.guard = none → twoChk ops m i j m' = true → Does2 P o1 o2 st st' → W m' st' → W m st
theorem fld_pure (hT : TabOk P T) {L : Lay} {st : St} {a : Act} {w : World} (h : Rel L st a w Free) {o : Oper} {t n : Nat} {x : Operand} {g : Nat} {p : Path} {out : Out} (ho : o.op = .fieldAddr t x n) (hx : ref st x = .adr g p) (hg0 : o.guard = none) (hp : pop T st st o = some out) : ∃ v, Yields P ops o v a ∧ ORep L st w out.pv v ∧ out.pv.isRoot = false ∧ out.st = st := by
 have hw : Region.wanted o (yielded ops a.tmps) = true := by unfold Region.wanted; rw [hg0]
 unfold pop at hp
 rw [ho] at hp
 simp only at hp
 have hv := h.opnd x
 split at hp
 ·rename_i i hi
  have hTt := hT t i hi
  rw [hx] at hp hv
  simp only at hp
  split at hp
  ·rename_i s f y hl
   split at hp
   ·rename_i hc
    obtain ⟨hs, hn, hag⟩ := hc
    obtain rfl := (Option.some.inj hp)
    obtain ⟨s1, cs1, A, q1, q2⟩ := hv
    obtain rfl := q1.shape hl
    subst hs
    obtain ⟨fs, u1, u2, u3⟩ := hTt.str hag (by omega)
    obtain ⟨fd, agg1, s1, of, fi, v1, v2, v3, v4, v5, v6, v7, v8, v9, v10⟩ := (u3 n hn).ex
    obtain ⟨k1, ⟨f2, x2, k2⟩, k3, k4, k5⟩ := field_at n i.nf v3 f y
    obtain ⟨_, _, B1, _, m4⟩ := h.place q1 hl
    refine ⟨.pointer (some (A.add of)), .inl ⟨hw, fun w' => ?_⟩, ⟨s1, (cs1.drop of).take s1.size, A.add of, q1.app hl k1 k2 (k4 w cs1 (some A) m4.len), rfl⟩, rfl, rfl⟩
    have hne : ¬ s1.size = 0 := by omega
    simp [execOp, ho, Instr.fieldAt, run_underlying u1, v1, Instr.sureAddr, q2, fieldPlace, run_size v5, v6, hne, v4]
   ·cases hp
  ·cases hp
 ·cases hp
theorem vall_mem {W : Nat → St → Prop} {st : St} : ∀ {ps : List (Nat × Nat)} {p : Nat × Nat}, vall P T ops W st ps → p ∈ ps → vone P T ops p.1 st (W p.2)
 | q :: r, p, h, hp => by
  rcases List.mem_cons.1 hp with rfl | hp
  ·exact h.1
  ·exact vall_mem h.2 hp
theorem cnt_set {n m i : Nat} (hi : i < n) (hb : (arr n m).getD i false = false) : cntU n (fun j => !(arr n (m ||| 2 ^ i)).getD j false) + 1 = cntU n (fun j => !(arr n m).getD j false) := by
 refine cntU_flip n (i := i) hi (by simp only [hb]; rfl) ?_ fun j hj => ?_
 ·show (!(arr n (m ||| 2 ^ i)).getD i false) = false
  rw [arr_get, Nat.testBit_or, Nat.testBit_two_pow_self, decide_eq_true hi]
  simp
 ·show (!(arr n (m ||| 2 ^ i)).getD j false) = (!(arr n m).getD j false)
  rw [arr_get, arr_get, Nat.testBit_or, Nat.testBit_two_pow_of_ne (fun e => hj e.symm), Bool.or_false]
theorem cnt_zero {n m : Nat} (h : cntU n (fun j => !(arr n m).getD j false) = 0) {i : Nat} (hi : i < n) : (arr n m).getD i false = true := by
 have := cntU_zero n h i hi
 simpa using this
theorem VW.any (hT : TabOk P T) (hm : P.follows .mixedOrders = true) {id : Nat} {st : St} {Q : Exit → St → Prop} (h : ∀ (K : St → Prop), (∀ s, Q .normal s → K s) → ∀ W : Nat → St → Prop, Ruled P T ops K W → W 0 st) : VW P (.region id ops true) st Q := by
 intro L a w hr
 refine wp_mono (Q := fun e a' w' => match e with | .normal => ∃ L' st', Stp L L' w w' ∧ Rel L' st' a' w' Free ∧ Q .normal st' | _ => False) ?_ (fun e a' w' hq => ?_)
 case refine_2 =>
  cases e with
  | normal => exact hq
  | _ => exact hq.elim
 refine wp_region_any hm ?_
 have hx : Ext w { w with drawn := w.drawn + 1 } := Ext.drew w
 have hr1 := hr.grow hx
 have hst1 := Stp.ext (L := L) hx
 generalize ({ w with drawn := w.drawn + 1 } : World) = w1 at hr1 hst1 ⊢
 have key := h (Q .normal) (fun _ h => h) (fun m st => ∀ (n : Nat), cntU ops.size (fun j => !(arr ops.size m).getD j false) = n → ∀ (L' : Lay) (a : Act) (w' : World), Stp L L' w w' → Rel L' st a w' Free → wpAny P .any ops (fun e a' w' => match e with | .normal => ∃ L' st', Stp L L' w w' ∧ Rel L' st' a' w' Free ∧ Q .normal st' | _ => False) n (arr ops.size m) a w') ?_
 ·have e0 : arr ops.size 0 = Array.replicate ops.size false := by
   apply Array.ext
   ·simp [arr]
   ·intro j h1 h2
    simp [arr]
  have c0 : cntU ops.size (fun j => !(arr ops.size 0).getD j false) = ops.size := by
   have e1 : (fun j => !(arr ops.size 0).getD j false) = fun _ => true := by
    funext j
    rw [arr_get, Nat.zero_testBit, Bool.and_false]
    rfl
   rw [e1]
   exact cntU_all ops.size
  have := key _ c0 L a w1 hst1 hr1
  rwa [e0] at this
 ·refine ⟨fun m st hd hk n hn L' a w' hs hr => ?_, fun m ps st hc hne hv n hn L' a w' hs hr => ?_, fun m i m' st hc hv n hn L' a w' hs hr => ?_, fun m i m' st hc hv n hn L' a w' hs hr => ?_, fun m i j m' st st' o1 o2 hi hj gi gj hc hd hv n hn L' a w' hs hr => ?_⟩
  ·have hd : Region.ready .any ops (arr ops.size m) = [] := by simpa [doneChk] using hd
   exact wpAny_done hd ⟨L', st, hs, hr, hk⟩ n
  ·simp only [chk, Bool.and_eq_true, beq_iff_eq] at hc
   obtain ⟨hrd, hms⟩ := hc
   have hin : ∀ i ∈ Region.ready .any ops (arr ops.size m), ∃ p ∈ ps, p.1 = i ∧ i < ops.size ∧ (arr ops.size m).getD i false = false ∧ ∃ o, ops[i]? = some o := fun i hi => by
    obtain ⟨o, h1, h2, _⟩ := (ready_iff (arr_size _ _)).1 hi
    rw [hrd] at hi
    obtain ⟨p, hp, rfl⟩ := List.mem_map.1 hi
    exact ⟨p, hp, rfl, (Array.getElem?_eq_some_iff.1 h1).1, h2, o, h1⟩
   have hnil : Region.ready .any ops (arr ops.size m) ≠ [] := by
    rw [hrd]
    intro h0
    exact hne (List.map_eq_nil_iff.1 h0)
   cases n with
   | zero =>
    obtain ⟨i, hi⟩ := List.exists_mem_of_ne_nil _ hnil
    obtain ⟨p, _, _, h1, h2, _⟩ := hin i hi
    rw [cnt_zero hn h1] at h2
    cases h2
   | succ n =>
    refine ⟨fun h0 => absurd h0 hnil, fun i hi => ?_⟩
    obtain ⟨p, hp, rfl, h1, h2, o, ho⟩ := hin i hi
    have hm' : m ||| 2 ^ p.1 = p.2 := by
     have := List.all_eq_true.1 hms p hp
     simpa using this
    have hcn := cnt_set h1 h2
    rw [hm'] at hcn
    have hv1 := vall_mem hv hp
    unfold vone at hv1
    rw [ho] at hv1
    have hg := vguard_ok hr hv1
    rw [arr_set h1, hm']
    unfold wpOp
    rw [ho]
    simp only
    cases hw : Region.wanted o (yielded ops a.tmps) with
    | true =>
     rw [hw] at hg
     simp only at hg
     rw [if_pos rfl]
     left
     refine vread_ok hT hg (fun st1 pv hK => hK.1) L' a w' _ _ hr fun st' L2 a2 w2 ⟨st1, pv, hK, e⟩ hs' hr' => ?_
     subst e
     exact hK.2 n (by omega) L2 a2 w2 (hs.trans hs') hr'
    | false =>
     rw [hw] at hg
     simp only at hg
     rw [if_neg (by simp)]
     obtain ⟨L2, s1, s2⟩ := skip_ok hr hg.1
     exact hg.2 n (by omega) L2 _ w' (hs.trans s1) s2
  ·simp only [takeChk, Bool.and_eq_true, beq_iff_eq] at hc
   obtain ⟨c1, c2, c3, c4⟩ := hc
   obtain ⟨o, ho, h2, _⟩ := (ready_iff (arr_size _ _)).1 (show i ∈ Region.ready .any ops (arr ops.size m) by simpa using c3)
   have h1 : i < ops.size := (Array.getElem?_eq_some_iff.1 ho).1
   have hcn := cnt_set h1 h2
   rw [c4] at hcn
   unfold vpure at hv
   rw [ho] at hv
   simp only [vfloat] at hv
   split at hv
   ·rename_i pv hp
    obtain ⟨hnr, hv⟩ := hv
    obtain ⟨v, y1, y2, y3⟩ := pureOp_ok (P := P) (ops := ops) hr hp
    have hr' : Rel L' (setD st o.dst pv) (a.put o.dst v) w' Free := by
     cases hd : o.dst with
     | none => exact hr
     | some d => exact hr.setO (nonroot_spec hnr d hd) y3 y2
    cases n with
    | zero =>
     rw [cnt_zero hn h1] at h2
     cases h2
    | succ n =>
     refine wpAny_take ho c1 c2 c3 (fun c a w hq => hq.elim) y1 ?_
     rw [arr_set h1, c4]
     exact hv n (by omega) L' _ w' hs hr'
   ·exact hv.elim
  ·simp only [takeChk, Bool.and_eq_true, beq_iff_eq] at hc
   obtain ⟨c1, c2, c3, c4⟩ := hc
   obtain ⟨o, ho, h2, _⟩ := (ready_iff (arr_size _ _)).1 (show i ∈ Region.ready .any ops (arr ops.size m) by simpa using c3)
   have h1 : i < ops.size := (Array.getElem?_eq_some_iff.1 ho).1
   have hcn := cnt_set h1 h2
   rw [c4] at hcn
   unfold vfld at hv
   rw [ho] at hv
   obtain ⟨hf, hpp, hv⟩ := hv
   simp only [isFld] at hf
   split at hf
   ·cases hf
   rename_i hg0
   split at hf
   ·rename_i t x k hop
    split at hf
    ·rename_i g p hx
     unfold vread at hv
     rw [hop] at hv
     simp only at hv
     have hnil : nilTest T st o = none := by unfold nilTest; rw [hop]
     rw [hnil] at hv
     simp only at hv
     split at hv
     ·rename_i out hp
      obtain ⟨_, hnr, hv⟩ := hv
      obtain ⟨v, y1, y2, y3, y4⟩ := fld_pure (P := P) (ops := ops) hT hr hop hx hg0 hp
      rw [y4] at hnr hv
      have hr' : Rel L' (setD st o.dst out.pv) (a.put o.dst v) w' Free := by
       cases hd : o.dst with
       | none => exact hr
       | some d => exact hr.setO (nonroot_spec hnr d hd) y3 y2
      cases n with
      | zero =>
       rw [cnt_zero hn h1] at h2
       cases h2
      | succ n =>
       refine wpAny_take ho c1 c2 c3 (fun c a w hq => hq.elim) y1 ?_
       rw [arr_set h1, c4]
       exact hv n (by omega) L' _ w' hs hr'
     ·rename_i hp; rw [hp] at hpp; cases hpp
    ·cases hf
   ·cases hf
  ·simp only [twoChk, Bool.and_eq_true, beq_iff_eq] at hc
   obtain ⟨c1, c2, c3⟩ := hc
   obtain ⟨_, _, b1, _⟩ := (ready_iff (arr_size _ _)).1 (show i ∈ Region.ready .any ops (arr ops.size m) by rw [c1]; exact List.mem_singleton.2 rfl)
   obtain ⟨_, _, b2, _⟩ := (ready_iff (arr_size _ _)).1 (show j ∈ Region.ready .any ops (arr ops.size (m ||| 2 ^ i)) by rw [c2]; exact List.mem_singleton.2 rfl)
   have h1 : i < ops.size := (Array.getElem?_eq_some_iff.1 hi).1
   have h2 : j < ops.size := (Array.getElem?_eq_some_iff.1 hj).1
   have q1 := cnt_set h1 b1
   have q2 := cnt_set h2 b2
   rw [c3] at q2
   obtain ⟨n, rfl⟩ : ∃ k, n = k + 2 := ⟨n - 2, by omega⟩
   refine ⟨fun h0 => (by rw [c1] at h0; cases h0), fun x hx => ?_⟩
   rw [c1] at hx
   obtain rfl := List.mem_singleton.1 hx
   have hw1 : Region.wanted o1 (yielded ops a.tmps) = true := by unfold Region.wanted; rw [gi]
   obtain ⟨v, x1, x2⟩ := hd L' a w' _ _ hr (fun L2 a2 w2 k1 k2 => hv n (by omega) L2 a2 w2 (hs.trans k1) k2)
   rw [arr_set h1]
   unfold wpOp
   rw [hi]
   simp only
   rw [hw1, if_pos rfl]
   left
   unfold Oper.wp
   rw [x1, Oper.upon_value]
   refine ⟨fun h0 => (by rw [c2] at h0; cases h0), fun x hx => ?_⟩
   rw [c2] at hx
   obtain rfl := List.mem_singleton.1 hx
   have hw2 : Region.wanted o2 (yielded ops (a.put o1.dst v).tmps) = true := by unfold Region.wanted; rw [gj]
   rw [arr_set h2, c3]
   unfold wpOp
   rw [hj]
   simp only
   rw [hw2, if_pos rfl]
   left
   exact x2
end
theorem wy : type_of% (And.intro (And.intro @vone.eq_1 (And.intro @vall.eq_1 @vall.eq_2)) (And.intro @vpure.eq_1 (And.intro @vfld.eq_1 (And.intro @isFld.eq_1 (And.intro @popped.eq_1 @popped.eq_2))))) := And.intro (And.intro @vone.eq_1 (And.intro @vall.eq_1 @vall.eq_2)) (And.intro @vpure.eq_1 (And.intro @vfld.eq_1 (And.intro @isFld.eq_1 (And.intro @popped.eq_1 @popped.eq_2))))
end Go.Proofs.YtoeblmcibheldaaDoor.V
end
section
namespace Go.Proofs.YtoeblmcibheldaaDoor.V.W
open Go Go.RowKit
/-- a new fabric can be made -/
def newOk (t : List Nd) (s : List Int) : Bool := fits t s && !s.any fun x => decide (x > 64)
/-- the first i rows of memory -/
def memTo (s : List Int) (i : Nat) : List (List Int) := (s.take i).map fun n => List.replicate n.toNat 0
theorem memTo_succ {s : List Int} {i : Nat} (h : i < s.length) : memTo s (i + 1) = memTo s i ++ [List.replicate (s.getD i 0).toNat 0] := by
 unfold memTo
 rw [List.take_add_one, List.getElem?_eq_getElem h, List.map_append, List.getD_eq_getElem?_getD, List.getElem?_eq_getElem h]
 rfl
theorem memTo_len {s : List Int} {i : Nat} (h : i ≤ s.length) : (memTo s i).length = i := by
 simp [memTo]; omega
def newFab (t : List Nd) (s : List Int) : Fab := (t, s, allBars t s, memTo s s.length, List.replicate s.length true)
abbrev fFab : Fl := .pr .own (.pr .own (.pr .own (.pr .own .own)))
abbrev rFab (fl : Fl) (x : Fab) (b : Bool) : PV := .root (.tup [true, false]) (.pr sFi .bool) (.pr fl .fz) (x, b)
end Go.Proofs.YtoeblmcibheldaaDoor.V.W
end
section
namespace Go.Proofs.YtoeblmcibheldaaDoor.V.W
open Go Go.RowKit
set_option maxRecDepth 20000 in
set_option maxHeartbeats 2000000 in
theorem specNew_vc (t : List Nd) (s : List Int) (hl : t.length ≤ 2000000) (hs : s.length ≤ 2000000) : VC Tryd.prog 45 [.v false sNS t, .v false sI s] (fun pv => if newOk t s = true then pv = rFab fFab (newFab t s) true else pv = rFab .own ([], [], [], [], []) false) := by
 refine VC.of_body hT Tryd.func45 rfl (by kernel_rfl) [(.cell 4 50, true, sFi), (.tmp 5, false, .bool)] (by kernel_rfl) ?_
 show VW _ _ ([.v false sNS t, .v false sI s, D, D, D, D, D, D, D, D, D, D, D, D, D, D, D, D, D, D, D, D, D, D, D, D, D, D, D, D, D, D, D, D, D, D, D, D, D, D, D, D, D, D, D, D, D, D, D, D, D, D, D, D, D, D, D, D, D, D, D, D, D, D, D, D, D, D]) _
 repeat refine VW.seq ?_
 refine VW.regl hT fun K hK => ?_
 simp only [wq, simprocAttr]
 refine hK _ ?_
 clear hK K
 try refine vthen_n ?_
 repeat refine VW.seq ?_
 refine VW.regl hT fun K hK => ?_
 simp only [wq, simprocAttr]
 refine vcall_ex (specAllocate_vc t s hl hs) ?_
 intro pv hpv
 by_cases hf : fits t s = true
 case neg =>
  have hno : newOk t s = false := by rw [newOk, (by simpa using hf : fits t s = false), Bool.false_and]
  rw [if_neg hf] at hpv
  obtain ⟨bs, rfl⟩ := hpv
  simp only [wq, simprocAttr]
  refine hK _ ?_
  clear hK K
  try refine vthen_n ?_
  repeat refine VW.seq ?_
  refine VW.regl hT fun K hK => ?_
  simp only [wq, simprocAttr]
  refine vcall_ex (specEnum_vc t hl) ?_
  intro pv hpv
  by_cases hok : treeOk t = true
  ·rw [if_pos hok] at hpv
   obtain ⟨x3, rfl⟩ := hpv
   simp only [wq, simprocAttr]
   refine hK _ ?_
   clear hK K
   try refine vthen_n ?_
   repeat refine VW.seq ?_
   refine VW.regl hT fun K hK => ?_
   simp only [wq, simprocAttr]
   refine hK _ ?_
   clear hK K
   try refine vthen_n ?_
   repeat refine VW.seq ?_
   refine VW.cond rfl (fun hc => ?_) (fun hc => ?_)
   ·repeat refine VW.seq ?_
    refine VW.regl hT fun K hK => ?_
    simp only [wq, simprocAttr]
    refine hK _ ?_
    clear hK K
    try refine vthen_n ?_
    refine VW.ret ⟨.inl rfl, _, rfl, ?_⟩
    rw [if_neg (by rw [hno]; decide)]
   ·cases hc
  ·rw [if_neg hok] at hpv
   subst hpv
   simp only [wq, simprocAttr]
   refine hK _ ?_
   clear hK K
   try refine vthen_n ?_
   repeat refine VW.seq ?_
   refine VW.regl hT fun K hK => ?_
   simp only [wq, simprocAttr]
   refine hK _ ?_
   clear hK K
   try refine vthen_n ?_
   repeat refine VW.seq ?_
   refine VW.cond rfl (fun hc => ?_) (fun hc => ?_)
   ·repeat refine VW.seq ?_
    refine VW.regl hT fun K hK => ?_
    simp only [wq, simprocAttr]
    refine hK _ ?_
    clear hK K
    try refine vthen_n ?_
    refine VW.ret ⟨.inl rfl, _, rfl, ?_⟩
    rw [if_neg (by rw [hno]; decide)]
   ·cases hc
 rw [if_pos hf] at hpv
 subst hpv
 simp only [wq, simprocAttr]
 refine hK _ ?_
 clear hK K
 try refine vthen_n ?_
 have hok0 : sizesOk t s = true := by
  have := hf
  rw [fits, Bool.and_eq_true] at this
  exact this.1
 have hok := (sizesOk_iff.1 hok0).1
 have hsl := (sizesOk_iff.1 hok0).2.1
 have htl := treeOk_len hok
 have hpos : ∀ i, i < s.length → 0 ≤ s.getD i 0 := fun i hi => by
  rcases sizes_node hok0 (k := i) (by omega) with h | ⟨h, _⟩
  ·omega
  ·have := pw_in h
   omega
 repeat refine VW.seq ?_
 refine VW.regl hT fun K hK => ?_
 simp only [wq, simprocAttr]
 refine vcall_ex (specEnum_vc t hl) ?_
 intro pv hpv
 rw [if_pos hok] at hpv
 obtain ⟨x3, rfl⟩ := hpv
 simp only [wq, simprocAttr]
 refine hK _ ?_
 clear hK K
 try refine vthen_n ?_
 repeat refine VW.seq ?_
 refine VW.regl hT fun K hK => ?_
 simp only [wq, simprocAttr]
 refine hK _ ?_
 clear hK K
 try refine vthen_n ?_
 repeat refine VW.seq ?_
 refine VW.cond rfl (fun hc => ?_) (fun hc => ?_)
 ·cases hc
 refine VW.skip (vthen_n ?_)
 repeat refine VW.seq ?_
 refine VW.regl hT fun K hK => ?_
 simp only [wq, simprocAttr]
 refine ⟨by simp [limOk]; omega, by simp [limOk]; omega, ?_⟩
 refine hK _ ?_
 clear hK K
 try refine vthen_n ?_
 repeat refine VW.seq ?_
 refine VW.regl hT fun K hK => ?_
 simp only [wq, simprocAttr]
 refine hK _ ?_
 clear hK K
 try refine vthen_n ?_
 refine VW.retag (ι := Unit) (g := 10) (fun _ => fFab) _ rfl (fun w Z cs B h => ⟨(), h⟩) (fun j => by simp only [wq, simprocAttr]; rfl) (fun _ => ?_)
 repeat refine VW.seq ?_
 refine VW.block ?_
 refine VW.loop (α := Nat) [(0, none), (1, none), (4, none), (10, none), (11, none)] (fun i => [.v false sNS t, .v false sI s, D, D, .root (.box 50) sFi .own ([], [], [], [], []), D, D, D, D, D, .root (.box 50) sFi fFab (t, s, allBars t s, memTo s i, List.replicate i true), .v false (.int .i64) ((i : Nat)), D, D, D, D, D, D, D, D, D, D, D, D, D, D, D, D, D, D, D, D, D, D, D, D, D, D, D, D, D, D, D, D, D, D, D, D, D, D, D, D, D, D, D, D, D, D, D, D, D, D, D, D, D, D, D, D]) (fun i => i ≤ s.length ∧ ∀ j, j < i → s.getD j 0 ≤ 64) (fun i => s.length - i) ⟨0, ⟨by omega, fun j h => by omega⟩, ?_⟩ fun i ⟨hi, hle⟩ => ?_
 ·simp only [wn, wq, simprocAttr]
  try rfl
 repeat refine VW.seq ?_
 refine VW.regl hT fun K hK => ?_
 simp only [wq, simprocAttr]
 refine hK _ ?_
 clear hK K
 try refine vthen_n ?_
 repeat refine VW.seq ?_
 refine VW.cond rfl (fun hc => ?_) (fun hc => ?_)
 ·have hlt : i < s.length := by
   have : (i : Int) < (t.length : Int) := of_decide_eq_true hc
   omega
  have hml := memTo_len (s := s) (i := i) (by omega)
  have h6 := hpos i hlt
  have hiS : decide (0 ≤ (i : Int) ∧ (i : Int) < (s.length : Int)) = true := decide_eq_true ⟨Int.natCast_nonneg _, by omega⟩
  refine VW.skip (vthen_n ?_)
  repeat refine VW.seq ?_
  refine VW.block ?_
  repeat refine VW.seq ?_
  refine VW.regl hT fun K hK => ?_
  simp only [wq, simprocAttr]
  refine ⟨hiS, ?_⟩
  refine hK _ ?_
  clear hK K
  try refine vthen_n ?_
  repeat refine VW.seq ?_
  refine VW.cond rfl (fun hc => ?_) (fun hc => ?_)
  ·have hc : s.getD i 0 > 64 := of_decide_eq_true hc
   have hno : newOk t s = false := by
    rw [newOk, hf, Bool.true_and, Bool.not_eq_false', List.any_eq_true]
    exact ⟨_, getD_mem hlt, decide_eq_true hc⟩
   repeat refine VW.seq ?_
   refine VW.regl hT fun K hK => ?_
   simp only [wq, simprocAttr]
   refine hK _ ?_
   clear hK K
   try refine vthen_n ?_
   refine VW.ret ⟨.inl rfl, _, rfl, ?_⟩
   rw [if_neg (by rw [hno]; decide)]
  have h7 : ¬ s.getD i 0 > 64 := of_decide_eq_false hc
  refine VW.skip (vthen_n ?_)
  refine VW.weak (weak_norm [(0, none), (1, none), (4, none), (10, none), (11, none)] _) ?_
  simp only [wn, wq, simprocAttr]
  repeat refine VW.seq ?_
  have hrep : true :: List.replicate i true = List.replicate i true ++ [true] := by rw [← List.replicate_succ, List.replicate_succ']
  have sc3 : (decide (0 ≤ s.getD i 0) && limOk (Int.toNat (s.getD i 0)) 8) = true := by
   generalize s.getD i 0 = N at *
   simp [limOk]; omega
  refine VW.any hT hm fun K hK W hW => ?_
  apply cutl
  intro tK
  apply cutl
  intro t2047
  apply cutl
  intro t1023
  apply cutl
  intro t255
  apply cutl
  intro t253
  apply cutl
  intro t127
  apply cutl
  intro t125
  apply cutl
  intro t63
  apply cutl
  intro t61
  apply cutl
  intro t31
  apply cutl
  intro t29
  apply cutl
  intro t15
  ·refine hW.takeF 0 0 1 _ (by kernel_rfl) ?_
   simp only [wy, wq, simprocAttr]
   refine hW.take 1 2 5 _ (by kernel_rfl) ?_
   simp only [wy, wq, simprocAttr]
   refine hW.take 5 3 13 _ (by kernel_rfl) ?_
   simp only [wy, wq, simprocAttr]
   refine hW.all 13 [(1, 15), (4, 29)] _ (by kernel_rfl) (by simp) ?_
   simp only [wy, wq, simprocAttr]
   refine ⟨?_, ?_⟩
   ·exact t15.h
   ·refine ⟨hiS, ?_⟩
    exact t29.h
  ·skip
   refine hW.all 15 [(4, 31)] _ (by kernel_rfl) (by simp) ?_
   simp only [wy, wq, simprocAttr]
   skip
   refine ⟨hiS, ?_⟩
   exact t31.h
  ·skip
   refine hW.all 29 [(1, 31), (5, 61)] _ (by kernel_rfl) (by simp) ?_
   simp only [wy, wq, simprocAttr]
   refine ⟨?_, ?_⟩
   ·exact t31.h
   ·exact t61.h
  ·skip
   refine hW.all 31 [(5, 63)] _ (by kernel_rfl) (by simp) ?_
   simp only [wy, wq, simprocAttr]
   skip
   exact t63.h
  ·skip
   refine hW.all 61 [(1, 63), (6, 125)] _ (by kernel_rfl) (by simp) ?_
   simp only [wy, wq, simprocAttr]
   refine ⟨?_, ?_⟩
   ·exact t63.h
   ·refine ⟨sc3, ?_⟩
    exact t125.h
  ·skip
   refine hW.all 63 [(6, 127)] _ (by kernel_rfl) (by simp) ?_
   simp only [wy, wq, simprocAttr]
   skip
   refine ⟨sc3, ?_⟩
   exact t127.h
  ·skip
   refine hW.all 125 [(1, 127), (7, 253)] _ (by kernel_rfl) (by simp) ?_
   simp only [wy, wq, simprocAttr]
   refine ⟨?_, ?_⟩
   ·exact t127.h
   ·exact t253.h
  ·skip
   refine hW.all 127 [(7, 255)] _ (by kernel_rfl) (by simp) ?_
   simp only [wy, wq, simprocAttr]
   skip
   exact t255.h
  ·skip
   refine hW.all 253 [(1, 255)] _ (by kernel_rfl) (by simp) ?_
   simp only [wy, wq, simprocAttr]
   skip
   exact t255.h
  ·skip
   refine hW.all 255 [(8, 511)] _ (by kernel_rfl) (by simp) ?_
   simp only [wy, wq, simprocAttr]
   skip
   refine ⟨by simp [limOk, hml]; omega, ?_⟩
   refine hW.takeF 511 9 1023 _ (by kernel_rfl) ?_
   simp only [wy, wq, simprocAttr]
   exact t1023.h
  ·skip
   refine hW.all 1023 [(10, 2047)] _ (by kernel_rfl) (by simp) ?_
   simp only [wy, wq, simprocAttr]
   skip
   exact t2047.h
  ·skip
   refine hW.done 2047 _ (by kernel_rfl) ?_
   exact tK.h
  ·refine hK _ ?_
   show vthen _ _ _ .normal _
   refine vthen_n ?_
   repeat refine VW.seq ?_
   refine VW.regl hT fun K hK => ?_
   simp only [wq, simprocAttr]
   refine ⟨by simp [limOk]; omega, ?_⟩
   refine hK _ ?_
   clear hK K
   try refine vthen_n ?_
   show vthen _ _ _ .normal _
   refine vthen_n ?_
   repeat refine VW.seq ?_
   refine VW.regl hT fun K hK => ?_
   simp only [wq, simprocAttr]
   refine hK _ ?_
   clear hK K
   try refine vthen_n ?_
   refine ⟨i + 1, ⟨hlt, fun j h => ?_⟩, ?_, by show s.length - (i + 1) < s.length - i; omega⟩
   ·rcases Nat.lt_or_ge j i with h1 | h1
    ·exact hle j h1
    ·obtain rfl : j = i := by omega
     omega
   simp only [wn, wq, simprocAttr]
   rw [wrap64 (by omega) (by omega), memTo_succ hlt, hrep]
   rfl
 ·have hge : i = s.length := by
   have : ¬ (i : Int) < (t.length : Int) := of_decide_eq_false hc
   omega
  subst hge
  refine VW.exit ?_
  show vthen _ _ _ .normal _
  refine vthen_n ?_
  repeat refine VW.seq ?_
  refine VW.regl hT fun K hK => ?_
  simp only [wq, simprocAttr]
  refine hK _ ?_
  clear hK K
  try refine vthen_n ?_
  refine VW.ret ⟨.inl rfl, _, rfl, ?_⟩
  have hn : newOk t s = true := by
   rw [newOk, hf, Bool.true_and, Bool.not_eq_true', List.any_eq_false]
   intro x hx
   obtain ⟨j, h1, h2⟩ := List.getElem_of_mem hx
   have := hle j h1
   rw [List.getD_eq_getElem?_getD, List.getElem?_eq_getElem h1] at this
   have : s[j] ≤ 64 := this
   rw [h2] at this
   simpa using this
  rw [if_pos hn]
  rfl
end Go.Proofs.YtoeblmcibheldaaDoor.V.W
end
section
namespace Go.Proofs.YtoeblmcibheldaaDoor.V.W
open Go Go.RowKit
def words (xs : List Int) : Bool := !xs.any fun x => !inB x 0 65535
theorem isWord_vc (x : Int) : VC Tryd.prog 36 [.v false (.int .i64) (x)] (· = .v false .bool (inB x 0 65535)) := by
 refine VC.of_body hT Tryd.func36 rfl (by kernel_rfl) [(.tmp 2, false, .bool)] (by kernel_rfl) ?_
 show VW _ _ ([.v false (.int .i64) (x), D, D, D, D]) _
 repeat refine VW.seq ?_
 refine VW.regl hT fun K hK => ?_
 simp only [wq, simprocAttr]
 refine hK _ ?_
 clear hK K
 try refine vthen_n ?_
 repeat refine VW.seq ?_
 refine VW.regl hT fun K hK => ?_
 simp only [wq, simprocAttr]
 refine vcall_of (within_vc x 0 65535) ?_
 simp only [wq, simprocAttr]
 refine hK _ ?_
 clear hK K
 try refine vthen_n ?_
 exact VW.ret ⟨.inl rfl, _, rfl, rfl⟩
def guardOk (t : List Nd) (g : List Bool) : Bool := treeOk t && ((g.length == t.length) && g.getD 0 false)
end Go.Proofs.YtoeblmcibheldaaDoor.V.W
end
section
namespace Go.Proofs.YtoeblmcibheldaaDoor.V.W
open Go Go.RowKit
end Go.Proofs.YtoeblmcibheldaaDoor.V.W
end
section
namespace Go.Proofs.YtoeblmcibheldaaDoor.V.W
open Go Go.RowKit
end Go.Proofs.YtoeblmcibheldaaDoor.V.W
end
section
namespace Go.Proofs.YtoeblmcibheldaaDoor.V.W
open Go Go.RowKit
end Go.Proofs.YtoeblmcibheldaaDoor.V.W
end
section
namespace Go.Proofs.YtoeblmcibheldaaDoor.V.W
open Go Go.RowKit
end Go.Proofs.YtoeblmcibheldaaDoor.V.W
end
section
namespace Go.Proofs.YtoeblmcibheldaaDoor.V.W
open Go Go.RowKit
end Go.Proofs.YtoeblmcibheldaaDoor.V.W
end
section
namespace Go.Proofs.YtoeblmcibheldaaDoor.V.W
open Go Go.RowKit
/-- a row of memory that does not fit -/
def memBad (m : List (List Int)) (s : List Int) (k : Nat) : Bool := !(((m.getD k []).length : Int) == s.getD k 0) || !words (m.getD k [])
def memOk (m : List (List Int)) (s : List Int) : Bool := (List.range m.length).all fun k => !memBad m s k
/-- a fabric that may be -/
def fabOk (x : Fab) : Bool := newOk x.1 x.2.1 && (decide (allBars x.1 x.2.1 = x.2.2.1) && (((x.2.2.2.1.length : Int) == (x.2.1.length : Int)) && (guardOk x.1 x.2.2.2.2 && memOk x.2.2.2.1 x.2.1)))
structure FabL (x : Fab) : Prop where
 a : x.1.length ≤ 2000000
 b : x.2.1.length ≤ 2000000
 c : x.2.2.1.length ≤ 2000000
 d : x.2.2.2.1.length ≤ 2000000
 e : ∀ k, (x.2.2.2.1.getD k []).length ≤ 2000000
end Go.Proofs.YtoeblmcibheldaaDoor.V.W
end
section
namespace Go.Proofs.YtoeblmcibheldaaDoor.V.W
open Go Go.RowKit
/-- the room that is left behind an address in a window -/
def room (w : Int × Int) (a : Int) : Int := IntKind.i64.wrap (w.1 - IntKind.i64.wrap (a - w.2))
abbrev r2 (p : Int × Int) : PV := .root (.tup [false, false]) (.pr (.int .i64) (.int .i64)) (.pr .fz .fz) p
end Go.Proofs.YtoeblmcibheldaaDoor.V.W
end
section
namespace Go.Proofs.YtoeblmcibheldaaDoor.V.W
open Go Go.RowKit
end Go.Proofs.YtoeblmcibheldaaDoor.V.W
end
section
namespace Go.Proofs.YtoeblmcibheldaaDoor.V.W
open Go Go.RowKit
end Go.Proofs.YtoeblmcibheldaaDoor.V.W
end
section
namespace Go.Proofs.YtoeblmcibheldaaDoor.V.W
open Go Go.RowKit
end Go.Proofs.YtoeblmcibheldaaDoor.V.W
end
section
namespace Go.Proofs.YtoeblmcibheldaaDoor.V.W
open Go Go.RowKit
/-- a fabric's parts, if it is valid -/
theorem fab_parts {t : List Nd} {s : List Int} {b : List (Int × Int)} {m : List (List Int)} {g : List Bool} (h : fabOk (t, s, b, m, g) = true) : newOk t s = true ∧ allBars t s = b ∧ m.length = s.length ∧ guardOk t g = true ∧ (∀ k, k < m.length → ((m.getD k []).length : Int) = s.getD k 0 ∧ words (m.getD k []) = true) := by
 rw [fabOk, Bool.and_eq_true, Bool.and_eq_true, Bool.and_eq_true, Bool.and_eq_true] at h
 obtain ⟨h1, h2, h3, h4, h5⟩ := h
 have h5 : ((List.range m.length).all fun k => !memBad m s k) = true := h5
 refine ⟨h1, of_decide_eq_true h2, ?_, h4, fun k hk => ?_⟩
 ·have h3 : ((m.length : Int) == (s.length : Int)) = true := h3
  have := eq_of_beq h3
  omega
 ·have := List.all_eq_true.1 h5 k (List.mem_range.2 hk)
  rw [Bool.not_eq_true', memBad, Bool.or_eq_false_iff, Bool.not_eq_false', Bool.not_eq_false'] at this
  exact ⟨eq_of_beq this.1, this.2⟩
end Go.Proofs.YtoeblmcibheldaaDoor.V.W
end
section
namespace Go.Proofs.YtoeblmcibheldaaDoor.V.W
open Go Go.RowKit
end Go.Proofs.YtoeblmcibheldaaDoor.V.W
end
section
namespace Go.Proofs.YtoeblmcibheldaaDoor.V.W
open Go Go.RowKit
end Go.Proofs.YtoeblmcibheldaaDoor.V.W
end
section
namespace Go.Proofs.YtoeblmcibheldaaDoor.V
open Go Go.RowKit
section
variable {P : Program} {T : List (Nat × TI)}
end
end Go.Proofs.YtoeblmcibheldaaDoor.V
end
section
namespace Go.Proofs.YtoeblmcibheldaaDoor.V.W
open Go Go.RowKit
/-- a row with words laid over it -/
def over (row : List Int) (lo : Nat) (d : List Int) : List Int := row.take lo ++ d ++ row.drop (lo + d.length)
end Go.Proofs.YtoeblmcibheldaaDoor.V.W
end
section
namespace Go.Proofs.YtoeblmcibheldaaDoor.V.W
open Go Go.RowKit
end Go.Proofs.YtoeblmcibheldaaDoor.V.W
end
section
namespace Go.Proofs.YtoeblmcibheldaaDoor.V.W
open Go Go.RowKit
end Go.Proofs.YtoeblmcibheldaaDoor.V.W
end
section
namespace Go.Proofs.YtoeblmcibheldaaDoor.V.W
open Go Go.RowKit
abbrev sAct : Sh := .pr (.int .i64) (.pr (.int .i64) (.pr (.int .i64) (.int .i64)))
abbrev Ac : Type := Int × Int × Int × Int
/-- an act that may be -/
def actOk (a : Ac) : Bool := inB a.2.1 0 11 && (if a.1 = 1 then inB a.2.2.1 0 65535 && inB a.2.2.2 0 65535 else if a.1 = 2 then inB a.2.2.1 0 65535 && a.2.2.2 == 0 else if a.1 = 3 ∨ a.1 = 4 then a.2.2.1 == 0 && a.2.2.2 == 0 else false)
set_option maxRecDepth 20000 in
set_option maxHeartbeats 1000000 in
theorem actOk_vc (a : Ac) : VC Tryd.prog 22 [.v true sAct a] (· = .v false .bool (actOk a)) := by
 refine VC.of_body hT Tryd.func22 rfl (by kernel_rfl) [(.tmp 2, false, .bool)] (by kernel_rfl) ?_
 generalize hr : actOk a = r
 obtain ⟨kd, nd, x, y⟩ := a
 have hr : (inB nd 0 11 && (if kd = 1 then inB x 0 65535 && inB y 0 65535 else if kd = 2 then inB x 0 65535 && y == 0 else if kd = 3 ∨ kd = 4 then x == 0 && y == 0 else false)) = r := hr
 show VW _ _ ([.v true sAct (kd, nd, x, y), D, D, D, D, D, D, D, D, D, D, D, D, D, D, D, D, D, D, D, D, D, D, D, D, D, D, D, D, D, D, D, D, D, D, D, D, D, D, D]) _
 repeat refine VW.seq ?_
 refine VW.regl hT fun K hK => ?_
 simp only [wq, simprocAttr]
 refine hK _ ?_
 clear hK K
 try refine vthen_n ?_
 repeat refine VW.seq ?_
 refine VW.regl hT fun K hK => ?_
 simp only [wq, simprocAttr]
 refine vcall_of (within_vc nd 0 11) ?_
 simp only [wq, simprocAttr]
 refine hK _ ?_
 clear hK K
 try refine vthen_n ?_
 repeat refine VW.seq ?_
 refine VW.cond rfl (fun hc => ?_) (fun hc => ?_)
 ·have hc : inB nd 0 11 = false := (Bool.not_eq_true' _).mp hc
  repeat refine VW.seq ?_
  refine VW.regl hT fun K hK => ?_
  simp only [wq, simprocAttr]
  refine hK _ ?_
  clear hK K
  try refine vthen_n ?_
  refine VW.ret ⟨.inl rfl, _, rfl, ?_⟩
  rw [← hr, hc, Bool.false_and]
 have hc : inB nd 0 11 = true := by
  have := hc
  rwa [Bool.not_eq_false'] at this
 rw [hc, Bool.true_and] at hr
 refine VW.skip (vthen_n ?_)
 repeat refine VW.seq ?_
 refine VW.regl hT fun K hK => ?_
 simp only [wq, simprocAttr]
 refine hK _ ?_
 clear hK K
 try refine vthen_n ?_
 repeat refine VW.seq ?_
 refine VW.block ?_
 repeat refine VW.seq ?_
 refine VW.regl hT fun K hK => ?_
 simp only [wq, simprocAttr]
 refine hK _ ?_
 clear hK K
 try refine vthen_n ?_
 repeat refine VW.seq ?_
 refine VW.cond rfl (fun hc => ?_) (fun hc => ?_)
 ·have hc : kd = 1 := eq_of_beq hc
  rw [if_pos hc] at hr
  repeat refine VW.seq ?_
  refine VW.regl hT fun K hK => ?_
  simp only [wq, simprocAttr]
  refine vcall_of (within_vc x 0 65535) ?_
  simp only [wq, simprocAttr]
  refine vbr (fun h => ?_) (fun h => ?_) <;> simp only [wq, simprocAttr]
  ·have h : inB x 0 65535 = true := h
   refine vcall_of (isWord_vc y) ?_
   simp only [wq, simprocAttr]
   refine hK _ ?_
   clear hK K
   try refine vthen_n ?_
   refine VW.ret ⟨.inl rfl, _, rfl, ?_⟩
   rw [← hr, h, Bool.true_and]
  ·have h : inB x 0 65535 = false := h
   refine hK _ ?_
   clear hK K
   try refine vthen_n ?_
   refine VW.ret ⟨.inl rfl, _, rfl, ?_⟩
   rw [← hr, h, Bool.false_and]
 have hc : ¬ kd = 1 := fun e => by rw [e] at hc; cases hc
 rw [if_neg hc] at hr
 repeat refine VW.seq ?_
 refine VW.regl hT fun K hK => ?_
 simp only [wq, simprocAttr]
 refine hK _ ?_
 clear hK K
 try refine vthen_n ?_
 repeat refine VW.seq ?_
 refine VW.cond rfl (fun hc => ?_) (fun hc => ?_)
 ·have hc : kd = 2 := eq_of_beq hc
  rw [if_pos hc] at hr
  repeat refine VW.seq ?_
  refine VW.regl hT fun K hK => ?_
  simp only [wq, simprocAttr]
  refine vcall_of (within_vc x 0 65535) ?_
  simp only [wq, simprocAttr]
  refine vbr (fun h => ?_) (fun h => ?_) <;> simp only [wq, simprocAttr]
  ·have h : inB x 0 65535 = true := h
   refine hK _ ?_
   clear hK K
   try refine vthen_n ?_
   refine VW.ret ⟨.inl rfl, _, rfl, ?_⟩
   rw [← hr, h, Bool.true_and]
  ·have h : inB x 0 65535 = false := h
   refine hK _ ?_
   clear hK K
   try refine vthen_n ?_
   refine VW.ret ⟨.inl rfl, _, rfl, ?_⟩
   rw [← hr, h, Bool.false_and]
 have hc : ¬ kd = 2 := fun e => by rw [e] at hc; cases hc
 rw [if_neg hc] at hr
 repeat refine VW.seq ?_
 refine VW.regl hT fun K hK => ?_
 simp only [wq, simprocAttr]
 refine hK _ ?_
 clear hK K
 try refine vthen_n ?_
 repeat refine VW.seq ?_
 refine VW.cond rfl (fun hc => ?_) (fun hc => ?_)
 ·have e3 : kd = 3 := eq_of_beq hc
  refine VW.skip (vthen_n ?_)
  repeat refine VW.seq ?_
  refine VW.cond rfl (fun hc => ?_) (fun hc => ?_)
  ·skip
   rw [if_pos (by omega)] at hr
   repeat refine VW.seq ?_
   refine VW.regl hT fun K hK => ?_
   simp only [wq, simprocAttr]
   refine vbr (fun h => ?_) (fun h => ?_) <;> simp only [wq, simprocAttr]
   ·have h : (x == 0) = true := h
    refine hK _ ?_
    clear hK K
    try refine vthen_n ?_
    refine VW.ret ⟨.inl rfl, _, rfl, ?_⟩
    rw [← hr, h, Bool.true_and]
   ·have h : (x == 0) = false := h
    refine hK _ ?_
    clear hK K
    try refine vthen_n ?_
    refine VW.ret ⟨.inl rfl, _, rfl, ?_⟩
    rw [← hr, h, Bool.false_and]
  exact absurd hc (by rw [e3]; decide)
 have h3 : ¬ kd = 3 := fun e => by rw [e] at hc; cases hc
 repeat refine VW.seq ?_
 refine VW.regl hT fun K hK => ?_
 simp only [wq, simprocAttr]
 refine hK _ ?_
 clear hK K
 try refine vthen_n ?_
 repeat refine VW.seq ?_
 refine VW.cond rfl (fun hc => ?_) (fun hc => ?_)
 ·have hc : kd = 4 := eq_of_beq hc
  rw [if_pos (by omega)] at hr
  repeat refine VW.seq ?_
  refine VW.regl hT fun K hK => ?_
  simp only [wq, simprocAttr]
  refine vbr (fun h => ?_) (fun h => ?_) <;> simp only [wq, simprocAttr]
  ·have h : (x == 0) = true := h
   refine hK _ ?_
   clear hK K
   try refine vthen_n ?_
   refine VW.ret ⟨.inl rfl, _, rfl, ?_⟩
   rw [← hr, h, Bool.true_and]
  ·have h : (x == 0) = false := h
   refine hK _ ?_
   clear hK K
   try refine vthen_n ?_
   refine VW.ret ⟨.inl rfl, _, rfl, ?_⟩
   rw [← hr, h, Bool.false_and]
 have h4 : ¬ kd = 4 := fun e => by rw [e] at hc; cases hc
 rw [if_neg (by omega)] at hr
 refine VW.skip ?_
 show vthen _ _ _ .normal _
 refine vthen_n ?_
 repeat refine VW.seq ?_
 refine VW.regl hT fun K hK => ?_
 simp only [wq, simprocAttr]
 refine hK _ ?_
 clear hK K
 try refine vthen_n ?_
 refine VW.ret ⟨.inl rfl, _, rfl, ?_⟩
 rw [← hr]
end Go.Proofs.YtoeblmcibheldaaDoor.V.W
end
section
namespace Go.Proofs.YtoeblmcibheldaaDoor.V.W
open Go Go.RowKit
end Go.Proofs.YtoeblmcibheldaaDoor.V.W
end
section
namespace Go.Proofs.YtoeblmcibheldaaDoor.V.W
open Go Go.RowKit
end Go.Proofs.YtoeblmcibheldaaDoor.V.W
end
section
namespace Go.Proofs.YtoeblmcibheldaaDoor.V.W
open Go Go.RowKit
end Go.Proofs.YtoeblmcibheldaaDoor.V.W
end
section
namespace Go.Proofs.YtoeblmcibheldaaDoor.V.W
open Go Go.RowKit
structure FabS (x : Fab) : Prop where
 a : x.1.length ≤ 2000000
 b : x.2.1.length ≤ 2000000
 c : x.2.2.1.length ≤ 2000000
 d : x.2.2.2.1.length ≤ 2000000
 e : tot x.2.2.2.1 x.2.2.2.1.length ≤ 2000000
 f : x.2.2.2.2.length ≤ 2000000
end Go.Proofs.YtoeblmcibheldaaDoor.V.W
end
section
namespace Go.Proofs.YtoeblmcibheldaaDoor.V.W
open Go Go.RowKit
end Go.Proofs.YtoeblmcibheldaaDoor.V.W
end
section
namespace Go.Proofs.YtoeblmcibheldaaDoor.V
open Go Go.RowKit
end Go.Proofs.YtoeblmcibheldaaDoor.V
namespace Go.Proofs.YtoeblmcibheldaaDoor.V.W
open Go Go.RowKit
end Go.Proofs.YtoeblmcibheldaaDoor.V.W
end
section
namespace Go.Proofs.YtoeblmcibheldaaDoor.V
open Go Go.RowKit
/-- a row's flag, its header known -/
def Tg (f : Fl) (n : Nat) (v : Value) : Prop := (∃ g c, f = .io g c ∧ v = .slice (some ⟨g, 0, none⟩) n c) ∨ ∃ A, f = .kz A 0 ∧ n = 0 ∧ v = .slice A 0 0
def TgS : (s : Sh) → Fl → s.ty → List Value → Prop
 | .pr a b, f, x, l => ∃ f1 f2 l1 l2, f = .pr f1 f2 ∧ l = l1 ++ l2 ∧ TgS a f1 x.1 l1 ∧ TgS b f2 x.2 l2
 | .sl _ s, f, xs, l => ∃ v, l = [v] ∧ Tg f (List.length (α := s.ty) xs) v
 | s, f, x, l => encI s f x = some l
theorem TgS.enc : ∀ {s : Sh} {f : Fl} {x : s.ty} {l : List Value}, TgS s f x l → encI s f x = some l
 | .unit, _, _, _, h => h
 | .int _, _, _, _, h => h
 | .bool, _, _, _, h => h
 | .str, _, _, _, h => h
 | .pr a b, f, x, l, ⟨f1, f2, l1, l2, e1, e2, h1, h2⟩ => by
  subst e1; subst e2
  simp only [encI, Fl.l, Fl.r, h1.enc, h2.enc]
 | .sl e s, f, xs, l, ⟨v, e1, h⟩ => by
  subst e1
  rcases h with ⟨g, c, rfl, rfl⟩ | ⟨A, rfl, h0, rfl⟩
  ·rfl
  ·show some [Value.slice A (List.length (α := s.ty) xs) 0] = _
   rw [h0]
theorem Rep.tagE {w : World} {Z : Nat → Prop} : ∀ {s : Sh} {f : Fl} {x : s.ty} {cs : List Value} {B : Nat → Prop}, Fl.allown s f = true → Rep w Z s f x cs B → ∃ fi, TgS s fi x cs ∧ Rep w Z s fi x cs B
 | .unit, f, _, _, _, _, h => ⟨f, by have h : _ = [] := h; rw [h]; rfl, h⟩
 | .int _, f, _, _, _, _, h => ⟨f, by have h : _ = [_] := h; rw [h]; rfl, h⟩
 | .bool, f, _, _, _, _, h => ⟨f, by have h : _ = [_] := h; rw [h]; rfl, h⟩
 | .str, f, _, _, _, _, h => ⟨f, by have h : _ = [_] := h; rw [h]; rfl, h⟩
 | .pr a b, f, x, cs, B, k, ⟨c1, c2, B1, B2, h0, h1, h2, h3, h4, h5⟩ => by
  simp only [Fl.allown, Bool.and_eq_true] at k
  obtain ⟨g1, m1, m2⟩ := h4.tagE k.1
  obtain ⟨g2, m3, m4⟩ := h5.tagE k.2
  exact ⟨.pr g1 g2, ⟨g1, g2, c1, c2, rfl, h0, m1, m3⟩, c1, c2, B1, B2, h0, h1, h2, h3, m2, m4⟩
 | .sl e s, f, xs, cs, B, k, h => by
  cases f with
  | own =>
   rcases id h with ⟨A, hc, hx⟩ | ⟨g, cap, cur, rows, Bs, hc, _⟩
   ·have hx : (xs : List s.ty) = [] := hx
    subst hx
    refine ⟨.kz A 0, ⟨_, hc, .inr ⟨A, rfl, rfl, rfl⟩⟩, ⟨A, 0, hc, Nat.le_refl _, Nat.zero_le _, fun hp => by simp at hp⟩, hc⟩
   ·exact ⟨.io g cap, ⟨_, hc, .inl ⟨g, cap, rfl, rfl⟩⟩, h, hc⟩
  | _ => simp [Fl.allown] at k
section
variable {P : Program} {T : List (Nat × TI)}
end
end Go.Proofs.YtoeblmcibheldaaDoor.V
end
section
namespace Go.Proofs.YtoeblmcibheldaaDoor.V.W
open Go Go.RowKit
end Go.Proofs.YtoeblmcibheldaaDoor.V.W
end
section
namespace Go.Proofs.YtoeblmcibheldaaDoor.V.W
open Go Go.RowKit
end Go.Proofs.YtoeblmcibheldaaDoor.V.W
end
section
namespace Go.Proofs.YtoeblmcibheldaaDoor.V.W
open Go Go.RowKit
/-- two fabrics of the same sizes -/
structure FabSh (x y : Fab) : Prop where
 a : y.1.length = x.1.length
 b : y.2.1.length = x.2.1.length
 c : y.2.2.1.length = x.2.2.1.length
 d : y.2.2.2.1.length = x.2.2.2.1.length
 e : ∀ k, (y.2.2.2.1.getD k []).length = (x.2.2.2.1.getD k []).length
 f : y.2.2.2.2.length = x.2.2.2.2.length
theorem FabSh.refl (x : Fab) : FabSh x x := ⟨rfl, rfl, rfl, rfl, fun _ => rfl, rfl⟩
theorem FabSh.trans {x y z : Fab} (h : FabSh x y) (k : FabSh y z) : FabSh x z := ⟨k.a.trans h.a, k.b.trans h.b, k.c.trans h.c, k.d.trans h.d, fun i => (k.e i).trans (h.e i), k.f.trans h.f⟩
end Go.Proofs.YtoeblmcibheldaaDoor.V.W
end
section
namespace Go.Proofs.YtoeblmcibheldaaDoor.V.W
open Go Go.RowKit
abbrev zA : Ac := (0, 0, 0, 0)
abbrev sAS : Sh := .sl 26 sAct
end Go.Proofs.YtoeblmcibheldaaDoor.V.W
end
section
end
section
namespace Go.Proofs.YtoeblmcibheldaaDoor.V.W
open Go Go.RowKit
theorem gl_words : (0, fun cs => cs = (#[.string ⟨#[119, 114, 105, 116, 101]⟩, .string ⟨#[114, 101, 97, 100]⟩, .string ⟨#[99, 117, 116]⟩, .string ⟨#[111, 112, 101, 110]⟩] : Array Value)) ∈ gls := .head _
def word (k : Int) : List UInt8 := if k = 1 then [119, 114, 105, 116, 101] else if k = 2 then [114, 101, 97, 100] else if k = 3 then [99, 117, 116] else [111, 112, 101, 110]
def actText (a : Ac) : List UInt8 := word a.1 ++ 32 :: Lib.itoa a.2.1 ++ (if a.1 ≤ 2 then 32 :: Lib.itoa a.2.2.1 else []) ++ (if a.1 = 1 then 32 :: Lib.itoa a.2.2.2 else [])
def fmtAct (a : Ac) : ByteArray × Bool := if actOk a = true then (bs (actText a), true) else (bs [], false)
abbrev rTB (p : ByteArray × Bool) : PV := .root (.tup [false, false]) (.pr .str .bool) (.pr .fz .fz) p
theorem actOk_iff {k n x y : Int} (h : actOk (k, n, x, y) = true) : (0 ≤ n ∧ n ≤ 11) ∧ (0 ≤ x ∧ x ≤ 65535) ∧ (0 ≤ y ∧ y ≤ 65535) ∧ (k = 1 ∨ k = 2 ∨ k = 3 ∨ k = 4) := by
 simp only [actOk, Bool.and_eq_true] at h
 obtain ⟨h1, h2⟩ := h
 refine ⟨by have := inB_iff.1 h1; omega, ?_⟩
 split at h2
 ·simp only [Bool.and_eq_true] at h2
  have a := inB_iff.1 h2.1
  have b := inB_iff.1 h2.2
  omega
 split at h2
 ·simp only [Bool.and_eq_true, beq_iff_eq] at h2
  have a := inB_iff.1 h2.1
  omega
 split at h2
 ·simp only [Bool.and_eq_true, beq_iff_eq] at h2
  omega
 ·cases h2
theorem bs32 : (⟨#[32]⟩ : ByteArray) = bs [32] := rfl
theorem word_len (k : Int) : (word k).length ≤ 5 := by
 unfold word
 split
 ·decide
 split
 ·decide
 split <;> decide
set_option maxRecDepth 20000 in
set_option maxHeartbeats 2000000 in
theorem fmtAct_vc (a : Ac) : VC Tryd.prog 9 [.v true sAct a] (· = rTB (fmtAct a)) := by
 refine VC.of_body hT Tryd.func9 rfl (by kernel_rfl) [(.tmp 2, false, .str), (.tmp 3, false, .bool)] (by kernel_rfl) ?_
 obtain ⟨kd, nd, x, y⟩ := a
 show VW _ _ ([.v true sAct (kd, nd, x, y), D, D, D, D, D, D, D, D, D, D, D, D, D, D, D, D, D, D, D, D, D, D, D, D, D, D, D, D, D, D, D, D, D, D, D, D, D, D, D, D, D]) _
 repeat refine VW.seq ?_
 refine VW.regl hT fun K hK => ?_
 simp only [wq, simprocAttr]
 refine hK _ ?_
 clear hK K
 try refine vthen_n ?_
 repeat refine VW.seq ?_
 refine VW.regl hT fun K hK => ?_
 simp only [wq, simprocAttr]
 refine vcall_of (actOk_vc _) ?_
 simp only [wq, simprocAttr]
 refine hK _ ?_
 clear hK K
 try refine vthen_n ?_
 repeat refine VW.seq ?_
 refine VW.cond rfl (fun hc => ?_) (fun hc => ?_)
 ·repeat refine VW.seq ?_
  refine VW.regl hT fun K hK => ?_
  simp only [wq, simprocAttr]
  refine hK _ ?_
  clear hK K
  try refine vthen_n ?_
  refine VW.ret ⟨.inl rfl, _, rfl, ?_⟩
  have hc : actOk (kd, nd, x, y) = false := (Bool.not_eq_true' _).mp hc
  rw [fmtAct, if_neg (by rw [hc]; decide)]
  rfl
 have hok : actOk (kd, nd, x, y) = true := (Bool.not_eq_false' _).mp hc
 refine VW.skip (vthen_n ?_)
 obtain ⟨hn, hx, hy, hk⟩ := actOk_iff hok
 have hw := word_len kd
 have hw0 : IntKind.i64.wrap (kd - 1) = kd - 1 := wrap64 (by omega) (by omega)
 have hi : 0 ≤ kd - 1 ∧ kd - 1 < ((4 : Nat) : Int) := by omega
 have hg : (#[.string ⟨#[119, 114, 105, 116, 101]⟩, .string ⟨#[114, 101, 97, 100]⟩, .string ⟨#[99, 117, 116]⟩, .string ⟨#[111, 112, 101, 110]⟩] : Array Value)[(kd - 1).toNat]? = some (.string (bs (word kd))) := by
  rcases hk with rfl | rfl | rfl | rfl <;> rfl
 have li := itoa_len (n := nd) (by omega) (by omega)
 rw [bs_size] at li
 have e5 : decide ((bs (word kd)).size + (⟨#[32]⟩ : ByteArray).size ≤ 9223372036854775807) = true := decide_eq_true (by rw [bs_size]; show _ + 1 ≤ _; omega)
 have e9 : decide ((bs (word kd) ++ (⟨#[32]⟩ : ByteArray)).size + (bs (Lib.itoa nd)).size ≤ 9223372036854775807) = true := decide_eq_true (by rw [show (⟨#[32]⟩ : ByteArray) = bs [32] from rfl, bs_app, bs_size, bs_size, List.length_append]; show _ + 1 + _ ≤ _; omega)
 repeat refine VW.seq ?_
 refine VW.any hT hm fun K hK W hW => ?_
 apply cutl; intro tK
 apply cutl; intro t2047
 apply cutl; intro t1023
 apply cutl; intro t511
 apply cutl; intro t479
 apply cutl; intro t255
 apply cutl; intro t463
 apply cutl; intro t223
 apply cutl; intro t127
 apply cutl; intro t455
 apply cutl; intro t207
 apply cutl; intro t95
 apply cutl; intro t451
 apply cutl; intro t199
 apply cutl; intro t79
 apply cutl; intro t449
 apply cutl; intro t195
 apply cutl; intro t71
 apply cutl; intro t193
 apply cutl; intro t67
 ·refine hW.takeF 0 0 1 _ (by kernel_rfl) ?_
  simp only [wy, wq, simprocAttr]
  refine hW.takeF 1 6 65 _ (by kernel_rfl) ?_
  simp only [wy, wq, simprocAttr]
  refine hW.all 65 [(1, 67), (7, 193)] _ (by kernel_rfl) (by simp) ?_
  simp only [wy, wq, simprocAttr]
  exact ⟨t67.h, t193.h⟩
 ·refine hW.all 67 [(2, 71), (7, 195)] _ (by kernel_rfl) (by simp) ?_
  simp only [wy, wq, simprocAttr]
  exact ⟨t71.h, t195.h⟩
 ·refine hW.all 193 [(1, 195), (8, 449)] _ (by kernel_rfl) (by simp) ?_
  simp only [wy, wq, simprocAttr]
  refine ⟨?_, ?_⟩
  ·exact t195.h
  ·refine vcall_of (formatInt_vc nd (by omega) (by omega)) ?_
   simp only [wq, simprocAttr]
   exact t449.h
 ·refine hW.all 71 [(3, 79), (7, 199)] _ (by kernel_rfl) (by simp) ?_
  simp only [wy, wq, simprocAttr]
  refine ⟨?_, ?_⟩
  ·rw [hw0]
   refine vhook_of (does_gidx (e := 9) rfl (by kernel_rfl) (by kernel_rfl) gl_words rfl hi hg rfl) ?_
   simp only [wq, simprocAttr]
   exact t79.h
  ·exact t199.h
 ·refine hW.all 195 [(2, 199), (8, 451)] _ (by kernel_rfl) (by simp) ?_
  simp only [wy, wq, simprocAttr]
  refine ⟨?_, ?_⟩
  ·exact t199.h
  ·refine vcall_of (formatInt_vc nd (by omega) (by omega)) ?_
   simp only [wq, simprocAttr]
   exact t451.h
 ·refine hW.all 449 [(1, 451)] _ (by kernel_rfl) (by simp) ?_
  simp only [wy, wq, simprocAttr]
  exact t451.h
 ·refine hW.all 79 [(4, 95), (7, 207)] _ (by kernel_rfl) (by simp) ?_
  simp only [wy, wq, simprocAttr]
  exact ⟨t95.h, t207.h⟩
 ·refine hW.all 199 [(3, 207), (8, 455)] _ (by kernel_rfl) (by simp) ?_
  simp only [wy, wq, simprocAttr]
  refine ⟨?_, ?_⟩
  ·rw [hw0]
   refine vhook_of (does_gidx (e := 9) rfl (by kernel_rfl) (by kernel_rfl) gl_words rfl hi hg rfl) ?_
   simp only [wq, simprocAttr]
   exact t207.h
  ·refine vcall_of (formatInt_vc nd (by omega) (by omega)) ?_
   simp only [wq, simprocAttr]
   exact t455.h
 ·refine hW.all 451 [(2, 455)] _ (by kernel_rfl) (by simp) ?_
  simp only [wy, wq, simprocAttr]
  exact t455.h
 ·refine hW.all 95 [(5, 127), (7, 223)] _ (by kernel_rfl) (by simp) ?_
  simp only [wy, wq, simprocAttr]
  exact ⟨⟨e5, t127.h⟩, t223.h⟩
 ·refine hW.all 207 [(4, 223), (8, 463)] _ (by kernel_rfl) (by simp) ?_
  simp only [wy, wq, simprocAttr]
  refine ⟨?_, ?_⟩
  ·exact t223.h
  ·refine vcall_of (formatInt_vc nd (by omega) (by omega)) ?_
   simp only [wq, simprocAttr]
   exact t463.h
 ·refine hW.all 455 [(3, 463)] _ (by kernel_rfl) (by simp) ?_
  simp only [wy, wq, simprocAttr]
  skip
  rw [hw0]
  refine vhook_of (does_gidx (e := 9) rfl (by kernel_rfl) (by kernel_rfl) gl_words rfl hi hg rfl) ?_
  simp only [wq, simprocAttr]
  exact t463.h
 ·refine hW.all 127 [(7, 255)] _ (by kernel_rfl) (by simp) ?_
  simp only [wy, wq, simprocAttr]
  exact t255.h
 ·refine hW.all 223 [(5, 255), (8, 479)] _ (by kernel_rfl) (by simp) ?_
  simp only [wy, wq, simprocAttr]
  refine ⟨?_, ?_⟩
  ·refine ⟨e5, ?_⟩
   exact t255.h
  ·refine vcall_of (formatInt_vc nd (by omega) (by omega)) ?_
   simp only [wq, simprocAttr]
   exact t479.h
 ·refine hW.all 463 [(4, 479)] _ (by kernel_rfl) (by simp) ?_
  simp only [wy, wq, simprocAttr]
  exact t479.h
 ·refine hW.all 255 [(8, 511)] _ (by kernel_rfl) (by simp) ?_
  simp only [wy, wq, simprocAttr]
  skip
  refine vcall_of (formatInt_vc nd (by omega) (by omega)) ?_
  simp only [wq, simprocAttr]
  exact t511.h
 ·refine hW.all 479 [(5, 511)] _ (by kernel_rfl) (by simp) ?_
  simp only [wy, wq, simprocAttr]
  exact ⟨e5, t511.h⟩
 ·refine hW.all 511 [(9, 1023)] _ (by kernel_rfl) (by simp) ?_
  simp only [wy, wq, simprocAttr]
  exact ⟨e9, t1023.h⟩
 ·refine hW.all 1023 [(10, 2047)] _ (by kernel_rfl) (by simp) ?_
  simp only [wy, wq, simprocAttr]
  exact t2047.h
 ·refine hW.done 2047 _ (by kernel_rfl) ?_
  exact tK.h
 refine hK _ ?_
 clear hW W hK K
 refine vthen_n ?_
 refine VW.weak (weak_norm [(1, none), (4, none)] _) ?_
 simp only [wn, wq, simprocAttr]
 rw [show bs (word kd) ++ (⟨#[32]⟩ : ByteArray) ++ bs (Lib.itoa nd) = bs (word kd ++ 32 :: Lib.itoa nd) from by rw [show (⟨#[32]⟩ : ByteArray) = bs [32] from rfl, bs_app, bs_app, List.append_assoc]; rfl]
 have hfin : fmtAct (kd, nd, x, y) = (bs (actText (kd, nd, x, y)), true) := if_pos hok
 rw [hfin]
 clear hfin hok hc hw0 hi hg e5 e9
 unfold actText
 have lx := itoa_len (n := x) (by omega) (by omega)
 have ly := itoa_len (n := y) (by omega) (by omega)
 rw [bs_size] at lx ly
 rcases hk with rfl | rfl | rfl | rfl
 ·repeat refine VW.seq ?_
  refine VW.regl hT fun K hK => ?_
  simp only [wq, simprocAttr]
  refine hK _ ?_
  clear hK K
  try refine vthen_n ?_
  repeat refine VW.seq ?_
  refine VW.cond rfl (fun hc => ?_) (fun hc => by cases hc)
  repeat refine VW.seq ?_
  refine VW.regl hT fun K hK => ?_
  simp only [wq, simprocAttr]
  refine vcall_of (formatInt_vc x (by omega) (by omega)) ?_
  simp only [wq, simprocAttr]
  refine ⟨decide_eq_true (by simp only [bs32, bs_app, bs_size, List.length_append, List.length_cons, List.length_nil]; omega), decide_eq_true (by simp only [bs32, bs_app, bs_size, List.length_append, List.length_cons, List.length_nil]; omega), ?_⟩
  refine hK _ ?_
  clear hK K
  try refine vthen_n ?_
  repeat refine VW.seq ?_
  refine VW.regl hT fun K hK => ?_
  simp only [wq, simprocAttr]
  refine hK _ ?_
  clear hK K
  try refine vthen_n ?_
  repeat refine VW.seq ?_
  refine VW.cond rfl (fun hc => ?_) (fun hc => by cases hc)
  repeat refine VW.seq ?_
  refine VW.regl hT fun K hK => ?_
  simp only [wq, simprocAttr]
  refine vcall_of (formatInt_vc y (by omega) (by omega)) ?_
  simp only [wq, simprocAttr]
  refine ⟨decide_eq_true (by simp only [bs32, bs_app, bs_size, List.length_append, List.length_cons, List.length_nil]; omega), decide_eq_true (by simp only [bs32, bs_app, bs_size, List.length_append, List.length_cons, List.length_nil]; omega), ?_⟩
  refine hK _ ?_
  clear hK K
  try refine vthen_n ?_
  repeat refine VW.seq ?_
  refine VW.regl hT fun K hK => ?_
  simp only [wq, simprocAttr]
  refine hK _ ?_
  clear hK K
  try refine vthen_n ?_
  refine VW.ret ⟨.inl rfl, _, rfl, ?_⟩
  simp [bs32, bs_app]
 ·repeat refine VW.seq ?_
  refine VW.regl hT fun K hK => ?_
  simp only [wq, simprocAttr]
  refine hK _ ?_
  clear hK K
  try refine vthen_n ?_
  repeat refine VW.seq ?_
  refine VW.cond rfl (fun hc => ?_) (fun hc => by cases hc)
  repeat refine VW.seq ?_
  refine VW.regl hT fun K hK => ?_
  simp only [wq, simprocAttr]
  refine vcall_of (formatInt_vc x (by omega) (by omega)) ?_
  simp only [wq, simprocAttr]
  refine ⟨decide_eq_true (by simp only [bs32, bs_app, bs_size, List.length_append, List.length_cons, List.length_nil]; omega), decide_eq_true (by simp only [bs32, bs_app, bs_size, List.length_append, List.length_cons, List.length_nil]; omega), ?_⟩
  refine hK _ ?_
  clear hK K
  try refine vthen_n ?_
  repeat refine VW.seq ?_
  refine VW.regl hT fun K hK => ?_
  simp only [wq, simprocAttr]
  refine hK _ ?_
  clear hK K
  try refine vthen_n ?_
  repeat refine VW.seq ?_
  refine VW.cond rfl (fun hc => by cases hc) (fun hc => ?_)
  refine VW.skip (vthen_n ?_)
  repeat refine VW.seq ?_
  refine VW.regl hT fun K hK => ?_
  simp only [wq, simprocAttr]
  refine hK _ ?_
  clear hK K
  try refine vthen_n ?_
  refine VW.ret ⟨.inl rfl, _, rfl, ?_⟩
  simp [bs32, bs_app]
 ·repeat refine VW.seq ?_
  refine VW.regl hT fun K hK => ?_
  simp only [wq, simprocAttr]
  refine hK _ ?_
  clear hK K
  try refine vthen_n ?_
  repeat refine VW.seq ?_
  refine VW.cond rfl (fun hc => by cases hc) (fun hc => ?_)
  refine VW.skip (vthen_n ?_)
  repeat refine VW.seq ?_
  refine VW.regl hT fun K hK => ?_
  simp only [wq, simprocAttr]
  refine hK _ ?_
  clear hK K
  try refine vthen_n ?_
  repeat refine VW.seq ?_
  refine VW.cond rfl (fun hc => by cases hc) (fun hc => ?_)
  refine VW.skip (vthen_n ?_)
  repeat refine VW.seq ?_
  refine VW.regl hT fun K hK => ?_
  simp only [wq, simprocAttr]
  refine hK _ ?_
  clear hK K
  try refine vthen_n ?_
  refine VW.ret ⟨.inl rfl, _, rfl, ?_⟩
  simp [bs32, bs_app]
 ·repeat refine VW.seq ?_
  refine VW.regl hT fun K hK => ?_
  simp only [wq, simprocAttr]
  refine hK _ ?_
  clear hK K
  try refine vthen_n ?_
  repeat refine VW.seq ?_
  refine VW.cond rfl (fun hc => by cases hc) (fun hc => ?_)
  refine VW.skip (vthen_n ?_)
  repeat refine VW.seq ?_
  refine VW.regl hT fun K hK => ?_
  simp only [wq, simprocAttr]
  refine hK _ ?_
  clear hK K
  try refine vthen_n ?_
  repeat refine VW.seq ?_
  refine VW.cond rfl (fun hc => by cases hc) (fun hc => ?_)
  refine VW.skip (vthen_n ?_)
  repeat refine VW.seq ?_
  refine VW.regl hT fun K hK => ?_
  simp only [wq, simprocAttr]
  refine hK _ ?_
  clear hK K
  try refine vthen_n ?_
  refine VW.ret ⟨.inl rfl, _, rfl, ?_⟩
  simp [bs32, bs_app]
end Go.Proofs.YtoeblmcibheldaaDoor.V.W
end
section
namespace Go.Proofs.YtoeblmcibheldaaDoor.V.W
open Go Go.RowKit Go.Proofs.YtoeblmcibheldaaDoor.V
def actWds : List ByteArray := [⟨#[119, 114, 105, 116, 101]⟩, ⟨#[114, 101, 97, 100]⟩, ⟨#[99, 117, 116]⟩, ⟨#[111, 112, 101, 110]⟩]
theorem gl_wds : (0, fun cs => cs = (actWds.map Value.string).toArray) ∈ gls := .head _
/-- the number of field j + 1 -/
def numOf (F : List (List UInt8)) (j : Nat) : Int := if j + 1 < F.length then (pu (F.getD (j + 1) [])).1 else 0
def kindOf (F : List (List UInt8)) : Int := 1 + Lib.idxOfS actWds (bs (F.getD 0 []))
def actOf (F : List (List UInt8)) : Ac := (kindOf F, numOf F 0, numOf F 1, numOf F 2)
def joinF (F : List (List UInt8)) : List UInt8 := Lib.join F [32]
def paOk (F : List (List UInt8)) : Bool := actOk (actOf F) && decide (actText (actOf F) = joinF F)
def parseF (l : List UInt8) : Ac × Bool := if (splitOk l && (inB ((Lib.fields l).length : Int) 2 4 && paOk (Lib.fields l))) = true then (actOf (Lib.fields l), true) else (zA, false)
abbrev rAB (p : Ac × Bool) : PV := .root (.tup [true, false]) (.pr sAct .bool) (.pr .fz .fz) p
abbrev sh3 : Sh := .pr (.int .i64) (.pr (.int .i64) (.int .i64))
def numsTo (F : List (List UInt8)) (i : Nat) : Int × Int × Int := (if 0 < i then numOf F 0 else 0, if 1 < i then numOf F 1 else 0, if 2 < i then numOf F 2 else 0)
theorem getD_bs (F : List (List UInt8)) (i : Nat) : (F.map bs).getD i ByteArray.empty = bs (F.getD i []) := by
 rw [List.getD_eq_getElem?_getD, List.getD_eq_getElem?_getD, List.getElem?_map]
 cases F[i]? <;> rfl
def f3 : Nat → Fl
 | 0 => .fz
 | 1 => .pr .fz .fz
 | _ => .pr .fz (.pr .fz .fz)
theorem bs_back (l : List UInt8) : (bs l).data.toList = l := by simp [bs]
theorem ns0 {F : List (List UInt8)} (h : 1 < F.length) : ((pu (bs (F.getD 1 [])).data.toList).1, (numsTo F 0).2) = numsTo F 1 := by
 rw [bs_back]
 simp [numsTo, numOf, h]
theorem ns1 {F : List (List UInt8)} (h : 2 < F.length) : ((numsTo F 1).1, (pu (bs (F.getD 2 [])).data.toList).1, (numsTo F 1).2.2) = numsTo F 2 := by
 rw [bs_back]
 simp [numsTo, numOf, h]
theorem ns2 {F : List (List UInt8)} (h : 3 < F.length) : ((numsTo F 2).1, (numsTo F 2).2.1, (pu (bs (F.getD 3 [])).data.toList).1) = numsTo F 3 := by
 rw [bs_back]
 simp [numsTo, numOf, h]
theorem ns_end {F : List (List UInt8)} (h1 : 2 ≤ F.length) (h2 : F.length ≤ 4) : numsTo F (F.length - 1) = (numOf F 0, numOf F 1, numOf F 2) := by
 rcases (show F.length = 2 ∨ F.length = 3 ∨ F.length = 4 by omega) with e | e | e <;> rw [e] <;> simp [numsTo, numOf, e]
theorem idx_eq (x : ByteArray) : Lib.idxOfS actWds x = if actWds.getD 0 ByteArray.empty = x then 0 else if actWds.getD 1 ByteArray.empty = x then 1 else if actWds.getD 2 ByteArray.empty = x then 2 else if actWds.getD 3 ByteArray.empty = x then 3 else -1 := rfl
theorem idx_bound (x : ByteArray) : -1 ≤ Lib.idxOfS actWds x ∧ Lib.idxOfS actWds x ≤ 3 := by
 rw [idx_eq]
 split
 ·omega
 split
 ·omega
 split
 ·omega
 split <;> omega
theorem join_small {F : List (List UInt8)} (h : F.length ≤ 4) (hf : ∀ f ∈ F, f.length ≤ 600) : (Lib.join F [32]).length ≤ 140737488355328 := by
 match F, h, hf with
 | [], _, _ => simp [Lib.join, List.intercalate]
 | [a], _, hf =>
  have := hf a (by simp)
  simp [Lib.join, List.intercalate]
  omega
 | [a, b], _, hf =>
  have := hf a (by simp); have := hf b (by simp)
  simp [Lib.join, List.intercalate]
  omega
 | [a, b, c], _, hf =>
  have := hf a (by simp); have := hf b (by simp); have := hf c (by simp)
  simp [Lib.join, List.intercalate]
  omega
 | [a, b, c, d], _, hf =>
  have := hf a (by simp); have := hf b (by simp); have := hf c (by simp); have := hf d (by simp)
  simp [Lib.join, List.intercalate]
  omega
 | _ :: _ :: _ :: _ :: _ :: r, h, _ => simp at h
set_option maxRecDepth 20000 in
set_option maxHeartbeats 4000000 in
theorem parseAct_vc (s : ByteArray) (hs : s.size ≤ 2000000) : VC Tryd.prog 16 [.v false .str s] (· = rAB (parseF s.data.toList)) := by
 refine VC.of_body hT Tryd.func16 rfl (by kernel_rfl) [(.cell 2 26, true, sAct), (.tmp 3, false, .bool)] (by kernel_rfl) ?_
 show VW _ _ ([.v false .str s, D, D, D, D, D, D, D, D, D, D, D, D, D, D, D, D, D, D, D, D, D, D, D, D, D, D, D, D, D, D, D, D, D, D, D, D, D, D, D, D, D, D, D, D, D, D, D, D, D, D, D, D, D, D, D, D, D, D, D, D, D, D, D, D, D, D, D, D, D, D]) _
 have hsp := (splitFields_vc s hs).fzt rfl
 have hpf : parseF s.data.toList = if (splitOk s.data.toList && (inB ((Lib.fields s.data.toList).length : Int) 2 4 && paOk (Lib.fields s.data.toList))) = true then (actOf (Lib.fields s.data.toList), true) else (zA, false) := rfl
 generalize parseF s.data.toList = R at hpf
 repeat refine VW.seq ?_
 refine VW.regl hT fun K hK => ?_
 simp only [wq, simprocAttr]
 refine hK _ ?_
 clear hK K
 try refine vthen_n ?_
 by_cases hok : splitOk s.data.toList = true
 case neg =>
  rw [show splitF s.data.toList = ([], false) from if_neg hok] at hsp
  rw [if_neg (by rw [Bool.not_eq_true] at hok; rw [hok]; simp)] at hpf
  subst hpf
  repeat refine VW.seq ?_
  refine VW.regl hT fun K hK => ?_
  simp only [wq, simprocAttr]
  refine vcall_of hsp ?_
  simp only [wq, simprocAttr]
  refine hK _ ?_
  clear hK K
  try refine vthen_n ?_
  repeat refine VW.seq ?_
  refine VW.regl hT fun K hK => ?_
  simp only [wq, simprocAttr]
  refine hK _ ?_
  clear hK K
  try refine vthen_n ?_
  repeat refine VW.seq ?_
  refine VW.cond rfl (fun hc => ?_) (fun hc => by cases hc)
  repeat refine VW.seq ?_
  refine VW.regl hT fun K hK => ?_
  simp only [wq, simprocAttr]
  refine hK _ ?_
  clear hK K
  try refine vthen_n ?_
  exact VW.ret ⟨.inl rfl, _, rfl, rfl⟩
 rw [show splitF s.data.toList = ((Lib.fields s.data.toList).map bs, true) from if_pos hok] at hsp
 rw [hok, Bool.true_and] at hpf
 have hfm := fun f (hf : f ∈ Lib.fields s.data.toList) => fields_in hf
 have hsl : s.data.toList.length ≤ 600 := by
  have := hok
  simp only [splitOk, Bool.and_eq_true, decide_eq_true_eq] at this
  exact this.1
 generalize Lib.fields s.data.toList = F at *
 have hfs : ∀ i, (bs (F.getD i [])).size ≤ 2000000 := fun i => by
  rw [bs_size, List.getD_eq_getElem?_getD]
  cases h : F[i]? with
  | none => simp
  | some f =>
   have := hfm f (List.mem_of_getElem? h)
   simp only [Option.getD_some]
   omega
 repeat refine VW.seq ?_
 refine VW.regl hT fun K hK => ?_
 simp only [wq, simprocAttr]
 refine vcall_of hsp ?_
 simp only [wq, simprocAttr]
 refine hK _ ?_
 clear hK K
 try refine vthen_n ?_
 repeat refine VW.seq ?_
 refine VW.regl hT fun K hK => ?_
 simp only [wq, simprocAttr]
 refine vcall_of (within_vc _ 2 4) ?_
 simp only [wq, simprocAttr]
 refine hK _ ?_
 clear hK K
 try refine vthen_n ?_
 repeat refine VW.seq ?_
 refine VW.cond rfl (fun hc => ?_) (fun hc => ?_)
 ·have hc : inB ((F.map bs).length : Int) 2 4 = false := (Bool.not_eq_true' _).mp hc
  rw [List.length_map] at hc
  rw [hc, Bool.false_and, if_neg (by decide)] at hpf
  subst hpf
  repeat refine VW.seq ?_
  refine VW.regl hT fun K hK => ?_
  simp only [wq, simprocAttr]
  refine hK _ ?_
  clear hK K
  try refine vthen_n ?_
  exact VW.ret ⟨.inl rfl, _, rfl, rfl⟩
 have hc : inB ((F.map bs).length : Int) 2 4 = true := (Bool.not_eq_false' _).mp hc
 rw [List.length_map] at hc
 rw [hc, Bool.true_and] at hpf
 have hl := inB_iff.1 hc
 have h24 : 2 ≤ F.length ∧ F.length ≤ 4 := by omega
 refine VW.skip (vthen_n ?_)
 repeat refine VW.seq ?_
 refine VW.regl hT fun K hK => ?_
 simp only [wq, simprocAttr]
 refine hK _ ?_
 clear hK K
 try refine vthen_n ?_
 repeat refine VW.seq ?_
 refine VW.regl hT fun K hK => ?_
 simp only [wq, simprocAttr]
 refine ⟨by simp; omega, ?_⟩
 refine hK _ ?_
 clear hK K
 try refine vthen_n ?_
 rw [List.take_length]
 have hGl : ((F.map bs).drop 1).length = F.length - 1 := by rw [List.length_drop, List.length_map]
 have hGg : ∀ i, ((F.map bs).drop 1).getD i ByteArray.empty = bs (F.getD (i + 1) []) := fun i => by
  rw [← getD_bs, List.getD_eq_getElem?_getD, List.getD_eq_getElem?_getD, List.getElem?_drop, Nat.add_comm]
 generalize (F.map bs).drop 1 = G at *
 repeat refine VW.seq ?_
 refine VW.block ?_
 refine VW.loop (α := Nat) [(2, none), (4, none), (6, none), (28, none), (29, none), (30, none)] (fun i => [D, D, .root (.box 26) sAct .own zA, D, .v false sSt (F.map bs), D, .root (.box 62) sh3 (f3 i) (numsTo F i), D, D, D, D, D, D, D, D, D, D, D, D, D, D, D, D, D, D, D, D, D, .v false sSt G, .v false (.int .i64) (G.length), .v false (.int .i64) (i), D, D, D, D, D, D, D, D, D, D, D, D, D, D, D, D, D, D, D, D, D, D, D, D, D, D, D, D, D, D, D, D, D, D, D, D, D, D, D, D]) (fun i => i ≤ G.length) (fun i => G.length - i) ⟨0, by omega, ?_⟩ fun i hi => ?_
 ·simp only [wn, wq, simprocAttr]
  try rfl
 repeat refine VW.seq ?_
 refine VW.regl hT fun K hK => ?_
 simp only [wq, simprocAttr]
 refine hK _ ?_
 clear hK K
 try refine vthen_n ?_
 repeat refine VW.seq ?_
 refine VW.cond rfl (fun hc => ?_) (fun hc => ?_)
 ·have hlt : i < G.length := by simpa using hc
  refine VW.skip (vthen_n ?_)
  repeat refine VW.seq ?_
  refine VW.block ?_
  repeat refine VW.seq ?_
  refine VW.regl hT fun K hK => ?_
  simp only [wq, simprocAttr]
  refine ⟨decide_eq_true ⟨Int.natCast_nonneg _, by show (i : Int) < (G.length : Int); omega⟩, ?_⟩
  rw [hGg]
  refine hK _ ?_
  clear hK K
  try refine vthen_n ?_
  rcases (show i = 0 ∨ i = 1 ∨ i = 2 by omega) with rfl | rfl | rfl
  ·skip
   repeat refine VW.seq ?_
   refine VW.regl hT fun K hK => ?_
   simp only [wq, simprocAttr]
   refine vcall_of (parseUint_vc _ (hfs _)) ?_
   simp only [wq, simprocAttr]
   refine vhook_of (does_aidx (i := 0) (n := 3) (g := 6) (t0 := 62) (e := 3) (s1 := .int .i64) (of := 0) (k := .i64) rfl (by kernel_rfl) (by kernel_rfl) rfl rfl (by decide) rfl rfl rfl) ?_
   simp only [wq, simprocAttr]
   refine hK _ ?_
   clear hK K
   try refine vthen_n ?_
   show vthen _ _ _ .normal _
   refine vthen_n ?_
   repeat refine VW.seq ?_
   refine VW.regl hT fun K hK => ?_
   simp only [wq, simprocAttr]
   refine hK _ ?_
   clear hK K
   try refine vthen_n ?_
   refine ⟨1, by omega, ?_, by show G.length - 1 < G.length - 0; omega⟩
   simp only [wn, wq, simprocAttr]
   rw [ns0 (F := F) (by omega)]
   rfl
  ·skip
   repeat refine VW.seq ?_
   refine VW.regl hT fun K hK => ?_
   simp only [wq, simprocAttr]
   refine vcall_of (parseUint_vc _ (hfs _)) ?_
   simp only [wq, simprocAttr]
   refine vhook_of (does_aidx (i := 1) (n := 3) (g := 6) (t0 := 62) (e := 3) (s1 := .int .i64) (of := 1) (k := .i64) rfl (by kernel_rfl) (by kernel_rfl) rfl rfl (by decide) rfl rfl rfl) ?_
   simp only [wq, simprocAttr]
   refine hK _ ?_
   clear hK K
   try refine vthen_n ?_
   show vthen _ _ _ .normal _
   refine vthen_n ?_
   repeat refine VW.seq ?_
   refine VW.regl hT fun K hK => ?_
   simp only [wq, simprocAttr]
   refine hK _ ?_
   clear hK K
   try refine vthen_n ?_
   refine ⟨2, by omega, ?_, by show G.length - 2 < G.length - 1; omega⟩
   simp only [wn, wq, simprocAttr]
   rw [ns1 (F := F) (by omega)]
   rfl
  ·skip
   repeat refine VW.seq ?_
   refine VW.regl hT fun K hK => ?_
   simp only [wq, simprocAttr]
   refine vcall_of (parseUint_vc _ (hfs _)) ?_
   simp only [wq, simprocAttr]
   refine vhook_of (does_aidx (i := 2) (n := 3) (g := 6) (t0 := 62) (e := 3) (s1 := .int .i64) (of := 2) (k := .i64) rfl (by kernel_rfl) (by kernel_rfl) rfl rfl (by decide) rfl rfl rfl) ?_
   simp only [wq, simprocAttr]
   refine hK _ ?_
   clear hK K
   try refine vthen_n ?_
   show vthen _ _ _ .normal _
   refine vthen_n ?_
   repeat refine VW.seq ?_
   refine VW.regl hT fun K hK => ?_
   simp only [wq, simprocAttr]
   refine hK _ ?_
   clear hK K
   try refine vthen_n ?_
   refine ⟨3, by omega, ?_, by show G.length - 3 < G.length - 2; omega⟩
   simp only [wn, wq, simprocAttr]
   rw [ns2 (F := F) (by omega)]
   rfl
 ·have hge : i = G.length := by
   have : ¬ (i : Int) < (G.length : Int) := of_decide_eq_false hc
   omega
  subst hge
  refine VW.exit ?_
  show vthen _ _ _ .normal _
  refine vthen_n ?_
  rw [hGl, ns_end h24.1 h24.2]
  have hF3 : f3 (F.length - 1) = .pr .fz .fz ∨ f3 (F.length - 1) = .pr .fz (.pr .fz .fz) := by
   rcases (show F.length = 2 ∨ F.length = 3 ∨ F.length = 4 by omega) with e | e | e <;> rw [e]
   ·exact .inl rfl
   ·exact .inr rfl
   ·exact .inr rfl
  generalize f3 (F.length - 1) = fl at *
  repeat refine VW.seq ?_
  refine VW.mixl hT hm 0 14 (by kernel_rfl) fun K hK => ?_
  simp only [wq, simprocAttr]
  refine ⟨by kernel_rfl, vhookD_of (fun st' hag hd => does_gslice (e := 9) (words := actWds) rfl (by kernel_rfl) (by kernel_rfl) gl_wds rfl (by decide) (by decide) hd) ?_⟩
  simp only [wq, simprocAttr]
  refine ⟨by simp; omega, ?_⟩
  repeat refine ⟨by kernel_rfl, ?_⟩
  refine vcallD_of (sindex_vc actWds _ (by decide)) ?_
  simp only [wq, simprocAttr]
  repeat refine ⟨by kernel_rfl, ?_⟩
  refine (vhookD_of (fun st' hag hd => does_aidx (sh := sh3) (f := fl) (x := (numOf F 0, numOf F 1, numOf F 2)) (i := 0) (n := 3) (g := 6) (t0 := 62) (e := 3) (s1 := .int .i64) (of := 0) (k := .i64) rfl (by kernel_rfl) (by kernel_rfl) (hag 6 (by decide)) rfl (by decide) rfl rfl hd) ?_)
  simp only [wq, simprocAttr]
  repeat refine ⟨by kernel_rfl, ?_⟩
  refine (vhookD_of (fun st' hag hd => does_aidx (sh := sh3) (f := fl) (x := (numOf F 0, numOf F 1, numOf F 2)) (i := 1) (n := 3) (g := 6) (t0 := 62) (e := 3) (s1 := .int .i64) (of := 1) (k := .i64) rfl (by kernel_rfl) (by kernel_rfl) (hag 6 (by decide)) rfl (by decide) rfl rfl hd) ?_)
  simp only [wq, simprocAttr]
  repeat refine ⟨by kernel_rfl, ?_⟩
  refine (vhookD_of (fun st' hag hd => does_aidx (sh := sh3) (f := fl) (x := (numOf F 0, numOf F 1, numOf F 2)) (i := 2) (n := 3) (g := 6) (t0 := 62) (e := 3) (s1 := .int .i64) (of := 2) (k := .i64) rfl (by kernel_rfl) (by kernel_rfl) (hag 6 (by decide)) rfl (by decide) rfl rfl hd) ?_)
  simp only [wq, simprocAttr]
  repeat refine ⟨by kernel_rfl, ?_⟩
  have hib := idx_bound (bs (F.getD 0 []))
  rw [getD_bs, wrap64 (x := 1 + Lib.idxOfS actWds (bs (F.getD 0 []))) (by omega) (by omega)]
  refine hK _ ?_
  clear hK K
  try refine vthen_n ?_
  repeat refine VW.seq ?_
  refine VW.regl hT fun K hK => ?_
  simp only [wq, simprocAttr]
  refine vcall_of (fmtAct_vc (actOf F)) ?_
  by_cases ha : actOk (actOf F) = true
  case neg =>
   rw [show fmtAct (actOf F) = (bs [], false) from if_neg ha]
   rw [if_neg (by rw [paOk]; simp [ha])] at hpf
   subst hpf
   simp only [wq, simprocAttr]
   refine hK _ ?_
   clear hK K
   try refine vthen_n ?_
   repeat refine VW.seq ?_
   refine VW.regl hT fun K hK => ?_
   simp only [wq, simprocAttr]
   refine hK _ ?_
   clear hK K
   try refine vthen_n ?_
   repeat refine VW.seq ?_
   refine VW.cond rfl (fun hc => ?_) (fun hc => by cases hc)
   repeat refine VW.seq ?_
   refine VW.regl hT fun K hK => ?_
   simp only [wq, simprocAttr]
   refine hK _ ?_
   clear hK K
   try refine vthen_n ?_
   exact VW.ret ⟨.inl rfl, _, rfl, rfl⟩
  rw [show fmtAct (actOf F) = (bs (actText (actOf F)), true) from if_pos ha]
  simp only [wq, simprocAttr]
  refine hK _ ?_
  clear hK K
  try refine vthen_n ?_
  have hjm : (F.map bs).map (·.data.toList) = F := by
   rw [List.map_map]
   simp [Function.comp_def, bs_back]
  have hjl : (Lib.join F [32]).length ≤ 140737488355328 := join_small h24.2 fun f hf => by
   have := hfm f hf
   omega
  repeat refine VW.seq ?_
  refine VW.regl hT fun K hK => ?_
  simp only [wq, simprocAttr]
  refine vcall_of (join_vc (F.map bs) ⟨#[32]⟩ (by rw [List.length_map]; omega) (by rw [hjm]; exact hjl)) ?_
  rw [hjm]
  simp only [wq, simprocAttr]
  refine hK _ ?_
  clear hK K
  try refine vthen_n ?_
  repeat refine VW.seq ?_
  refine VW.cond rfl (fun hc => ?_) (fun hc => ?_)
  ·rw [bs_toList', bs_toList'] at hc
   have hne : actText (actOf F) ≠ joinF F := by
    have hc : (!(actText (actOf F) == joinF F)) = true := hc
    simpa using hc
   rw [if_neg (by rw [paOk, ha, decide_eq_false hne]; decide)] at hpf
   subst hpf
   repeat refine VW.seq ?_
   refine VW.regl hT fun K hK => ?_
   simp only [wq, simprocAttr]
   refine hK _ ?_
   clear hK K
   try refine vthen_n ?_
   exact VW.ret ⟨.inl rfl, _, rfl, rfl⟩
  rw [bs_toList', bs_toList'] at hc
  have heq : actText (actOf F) = joinF F := by
   have hc : (!(actText (actOf F) == joinF F)) = false := hc
   simpa using hc
  rw [if_pos (by rw [paOk, ha, decide_eq_true heq]; rfl)] at hpf
  subst hpf
  refine VW.skip (vthen_n ?_)
  repeat refine VW.seq ?_
  refine VW.regl hT fun K hK => ?_
  simp only [wq, simprocAttr]
  refine hK _ ?_
  clear hK K
  try refine vthen_n ?_
  exact VW.ret ⟨.inl rfl, _, rfl, rfl⟩
end Go.Proofs.YtoeblmcibheldaaDoor.V.W
end
section
namespace Go.Proofs.YtoeblmcibheldaaDoor.V.W
open Go Go.RowKit
abbrev sB : Sh := .sl 5 (.int .u8)
abbrev sC : Sh := .pr sB (.pr (.int .i64) (.int .i64))
abbrev bC : RK := .box 82
theorem and255 (a : Int) : 0 ≤ IntKind.i64.wrap (BitVec.ofInt IntKind.i64.bits a &&& BitVec.ofInt IntKind.i64.bits 255).toNat ∧ IntKind.i64.wrap (BitVec.ofInt IntKind.i64.bits a &&& BitVec.ofInt IntKind.i64.bits 255).toNat ≤ 255 := by
 have h : (BitVec.ofInt IntKind.i64.bits a &&& BitVec.ofInt IntKind.i64.bits 255).toNat ≤ 255 := by
  rw [BitVec.toNat_and]
  exact Nat.le_trans Nat.and_le_right (by decide)
 rw [wrap64 (by omega) (by omega)]
 omega
/-- what a draw leaves of the cursor -/
def curR (A : Option Addr) (c : Nat) (b : List Int) (lo hi : Int) (pv ot : PV) : Prop := ∃ (m i h : Int) (r : Fl), pv = .v false (.int .i64) (m) ∧ lo ≤ m ∧ m < hi ∧ 0 ≤ i ∧ ot = .root bC sC (.pr (.kz A c) r) (b, i, h)
set_option maxRecDepth 20000 in
theorem byte_vx (A : Option Addr) (c : Nat) (r : Fl) (b : List Int) (i h : Int) (hi : 0 ≤ i) (hl : b.length ≤ 1048576) :
  VX Tryd.prog 60 [.root bC sC (.pr (.kz A c) r) (b, i, h)] 0 (curR A c b 0 256) := by
 refine VX.of_box hT Tryd.func60 rfl (by kernel_rfl) [(.tmp 2, false, .int .i64)] (by kernel_rfl) rfl fun bb => ?_
 show VW _ _ ([.root (.ibox 82 bb) sC (.pr (.kz A c) r) (b, i, h), D, D, D, D, D, D, D, D, D, D, D, D, D, D, D, D, D, D, D, D, D, D, D, D, D, D, D, D, D, D, D, D, D, D, D, D, D, D, D, D, D, D, D, D, D, D, D, D, D, D, D, D, D, D, D, D, D]) _
 repeat refine VW.seq ?_
 refine VW.regl hT fun K hK => ?_
 simp only [wq, Nat.reduceMul, reduceCtorEq, Nat.reduceBEq, Nat.reduceAdd, Nat.reduceLT, Nat.reduceLeDiff, Nat.reduceSub, Nat.reduceEqDiff]
 refine hK _ ?_
 clear hK K
 try refine vthen_n ?_
 repeat refine VW.seq ?_
 refine VW.regl hT fun K hK => ?_
 simp only [wq, Nat.reduceMul, reduceCtorEq, Nat.reduceBEq, Nat.reduceAdd, Nat.reduceLT, Nat.reduceLeDiff, Nat.reduceSub, Nat.reduceEqDiff]
 refine hK _ ?_
 clear hK K
 try refine vthen_n ?_
 generalize IntKind.i64.wrap (IntKind.i64.wrap (h * 6364136223846793005) + 1442695040888963407) = h1
 repeat refine VW.seq ?_
 refine VW.drawl hT hm (by kernel_rfl) fun K hK => ?_
 simp only [wq, Nat.reduceMul, reduceCtorEq, Nat.reduceBEq, Nat.reduceAdd, Nat.reduceLT, Nat.reduceLeDiff, Nat.reduceSub, Nat.reduceEqDiff]
 refine ⟨by kernel_rfl, by kernel_rfl, by kernel_rfl, by kernel_rfl, by decide, by kernel_rfl, by kernel_rfl, by kernel_rfl, by kernel_rfl, by decide, ?_⟩
 refine hK _ ?_
 clear hK K
 try refine vthen_n ?_
 obtain ⟨m, hmb, hme⟩ : ∃ m : Int, (0 ≤ m ∧ m ≤ 255) ∧ IntKind.i64.wrap (BitVec.ofInt IntKind.i64.bits (IntKind.i64.wrap (BitVec.ofInt IntKind.i64.bits (h1.fdiv (2 ^ min (Int.toNat 33) IntKind.i64.bits)) ^^^ BitVec.ofInt IntKind.i64.bits (h1.fdiv (2 ^ min (Int.toNat 45) IntKind.i64.bits))).toNat) &&& BitVec.ofInt IntKind.i64.bits 255).toNat = m := ⟨_, and255 _, rfl⟩
 rw [hme]
 repeat refine VW.seq ?_
 refine VW.drawl hT hm (by kernel_rfl) fun K hK => ?_
 simp only [wq, Nat.reduceMul, reduceCtorEq, Nat.reduceBEq, Nat.reduceAdd, Nat.reduceLT, Nat.reduceLeDiff, Nat.reduceSub, Nat.reduceEqDiff]
 refine ⟨by kernel_rfl, by kernel_rfl, by kernel_rfl, by kernel_rfl, by kernel_rfl, by kernel_rfl, by kernel_rfl, by kernel_rfl, ?_⟩
 refine hK _ ?_
 clear hK K
 try refine vthen_n ?_
 repeat refine VW.seq ?_
 refine VW.cond rfl (fun hc => ?_) (fun hc => ?_)
 ·have hlt : i < b.length := by simpa using hc
  repeat refine VW.seq ?_
  refine VW.mixl hT hm 0 14 (by kernel_rfl) fun K hK => ?_
  simp only [wq, Nat.reduceMul, reduceCtorEq, Nat.reduceBEq, Nat.reduceAdd, Nat.reduceLT, Nat.reduceLeDiff, Nat.reduceSub, Nat.reduceEqDiff]
  refine ⟨by kernel_rfl, by kernel_rfl, by kernel_rfl, by kernel_rfl, by kernel_rfl, by kernel_rfl, by kernel_rfl, by kernel_rfl, decide_eq_true ⟨hi, by show i < (b.length : Int); omega⟩, ?_⟩
  refine hK _ ?_
  clear hK K
  try refine vthen_n ?_
  obtain ⟨m2, hm2, hme2⟩ : ∃ m2 : Int, (0 ≤ m2 ∧ m2 ≤ 255) ∧ IntKind.i64.wrap (BitVec.ofInt IntKind.i64.bits (IntKind.i64.wrap (m + IntKind.i64.wrap (b.getD i.toNat 0))) &&& BitVec.ofInt IntKind.i64.bits 255).toNat = m2 := ⟨_, and255 _, rfl⟩
  rw [hme2]
  repeat refine VW.seq ?_
  refine VW.regl hT fun K hK => ?_
  simp only [wq, Nat.reduceMul, reduceCtorEq, Nat.reduceBEq, Nat.reduceAdd, Nat.reduceLT, Nat.reduceLeDiff, Nat.reduceSub, Nat.reduceEqDiff]
  refine hK _ ?_
  clear hK K
  try refine vthen_n ?_
  rw [wrap64 (by omega) (by omega)]
  show vthen _ _ _ .normal _
  refine vthen_n ?_
  repeat refine VW.seq ?_
  refine VW.regl hT fun K hK => ?_
  simp only [wq, Nat.reduceMul, reduceCtorEq, Nat.reduceBEq, Nat.reduceAdd, Nat.reduceLT, Nat.reduceLeDiff, Nat.reduceSub, Nat.reduceEqDiff]
  refine hK _ ?_
  clear hK K
  try refine vthen_n ?_
  refine VW.ret ⟨.inl rfl, _, _, _, _, rfl, ⟨0, rfl⟩, m2, i + 1, h1, _, rfl, hm2.1, by omega, by omega, rfl⟩
 ·refine VW.skip ?_
  show vthen _ _ _ .normal _
  refine vthen_n ?_
  repeat refine VW.seq ?_
  refine VW.regl hT fun K hK => ?_
  simp only [wq, Nat.reduceMul, reduceCtorEq, Nat.reduceBEq, Nat.reduceAdd, Nat.reduceLT, Nat.reduceLeDiff, Nat.reduceSub, Nat.reduceEqDiff]
  refine hK _ ?_
  clear hK K
  try refine vthen_n ?_
  refine VW.ret ⟨.inl rfl, _, _, _, _, rfl, ⟨0, rfl⟩, m, i, h1, _, rfl, hmb.1, by omega, hi, rfl⟩
/-- a remainder of what is not negative -/
theorem rem_lt {a n : Int} (h : 0 ≤ a) (hn : 1 ≤ n) : 0 ≤ Int.tmod a n ∧ Int.tmod a n < n := by
 rw [Int.tmod_eq_emod_of_nonneg h]
 exact ⟨Int.emod_nonneg _ (by omega), Int.emod_lt_of_pos _ (by omega)⟩
set_option maxRecDepth 20000 in
theorem below_vx (A : Option Addr) (c : Nat) (r : Fl) (b : List Int) (i h : Int) (n : Int) (hi : 0 ≤ i) (hl : b.length ≤ 1048576) (hn : 1 ≤ n) :
  VX Tryd.prog 47 [.root bC sC (.pr (.kz A c) r) (b, i, h), .v false (.int .i64) (n)] 0 (curR A c b 0 n) := by
 refine VX.of_box hT Tryd.func47 rfl (by kernel_rfl) [(.tmp 4, false, .int .i64)] (by kernel_rfl) rfl fun bb => ?_
 show VW _ _ ([.root (.ibox 82 bb) sC (.pr (.kz A c) r) (b, i, h), .v false (.int .i64) (n), D, D, D, D, D, D, D, D, D, D, D, D, D, D, D, D, D, D, D, D, D, D, D, D, D, D, D, D, D, D, D, D, D, D, D]) _
 repeat refine VW.seq ?_
 refine VW.regl hT fun K hK => ?_
 simp only [wq, simprocAttr]
 refine hK _ ?_
 clear hK K
 try refine vthen_n ?_
 repeat refine VW.seq ?_
 refine VW.regl hT fun K hK => ?_
 simp only [wq, simprocAttr]
 refine hK _ ?_
 clear hK K
 try refine vthen_n ?_
 repeat refine VW.seq ?_
 refine VW.cond rfl (fun hc => ?_) (fun hc => ?_)
 ·have : n ≤ 0 := of_decide_eq_true hc
  omega
 refine VW.skip (vthen_n ?_)
 repeat refine VW.seq ?_
 refine VW.regl hT fun K hK => ?_
 simp only [wq, simprocAttr]
 refine hK _ ?_
 clear hK K
 try refine vthen_n ?_
 repeat refine VW.seq ?_
 refine VW.cond rfl (fun hc => ?_) (fun hc => ?_)
 ·repeat refine VW.seq ?_
  refine VW.regl hT fun K hK => ?_
  simp only [wq, simprocAttr]
  refine vcall_io 0 ?_
  simp only [wq, simprocAttr]
  refine vxcall_ex (byte_vx A c r b i h hi hl) ?_
  rintro pv ot ⟨m, i', h', r', rfl, hm1, hm2, hi', rfl⟩
  simp only [wq, simprocAttr]
  have hr := rem_lt hm1 hn
  refine ⟨by simp; omega, ?_⟩
  refine hK _ ?_
  clear hK K
  try refine vthen_n ?_
  refine VW.ret ⟨.inl rfl, _, _, _, _, rfl, ⟨0, rfl⟩, _, i', h', r', rfl, hr.1, hr.2, hi', rfl⟩
 refine VW.skip (vthen_n ?_)
 repeat refine VW.seq ?_
 refine VW.regl hT fun K hK => ?_
 simp only [wq, simprocAttr]
 refine vcall_io 0 ?_
 simp only [wq, simprocAttr]
 refine vxcall_ex (byte_vx A c r b i h hi hl) ?_
 rintro pv ot ⟨m1, i1, h1, r1, rfl, ha1, hb1, hi1, rfl⟩
 simp only [wq, simprocAttr]
 refine hK _ ?_
 clear hK K
 try refine vthen_n ?_
 repeat refine VW.seq ?_
 refine VW.regl hT fun K hK => ?_
 simp only [wq, simprocAttr]
 refine vcall_io 0 ?_
 simp only [wq, simprocAttr]
 refine vxcall_ex (byte_vx A c r1 b i1 h1 hi1 hl) ?_
 rintro pv ot ⟨m2, i2, h2, r2, rfl, ha2, hb2, hi2, rfl⟩
 simp only [wq, simprocAttr]
 refine hK _ ?_
 clear hK K
 try refine vthen_n ?_
 repeat refine VW.seq ?_
 refine VW.regl hT fun K hK => ?_
 simp only [wq, simprocAttr]
 refine vcall_io 0 ?_
 simp only [wq, simprocAttr]
 refine vxcall_ex (byte_vx A c r2 b i2 h2 hi2 hl) ?_
 rintro pv ot ⟨m3, i3, h3, r3, rfl, ha3, hb3, hi3, rfl⟩
 simp only [wq, simprocAttr]
 refine hK _ ?_
 clear hK K
 try refine vthen_n ?_
 repeat refine VW.seq ?_
 refine VW.regl hT fun K hK => ?_
 simp only [wq, simprocAttr]
 refine vcall_io 0 ?_
 simp only [wq, simprocAttr]
 refine vxcall_ex (byte_vx A c r3 b i3 h3 hi3 hl) ?_
 rintro pv ot ⟨m4, i4, h4, r4, rfl, ha4, hb4, hi4, rfl⟩
 simp only [wq, simprocAttr]
 refine hK _ ?_
 clear hK K
 try refine vthen_n ?_
 repeat refine VW.seq ?_
 refine VW.regl hT fun K hK => ?_
 simp only [wq, simprocAttr]
 have w1 : IntKind.i64.wrap (m1 * 16777216) = m1 * 16777216 := wrap64 (by omega) (by omega)
 have w2 : IntKind.i64.wrap (m2 * 65536) = m2 * 65536 := wrap64 (by omega) (by omega)
 have w3 : IntKind.i64.wrap (m1 * 16777216 + m2 * 65536) = m1 * 16777216 + m2 * 65536 := wrap64 (by omega) (by omega)
 have w4 : IntKind.i64.wrap (m3 * 256) = m3 * 256 := wrap64 (by omega) (by omega)
 have w5 : IntKind.i64.wrap (m1 * 16777216 + m2 * 65536 + m3 * 256) = m1 * 16777216 + m2 * 65536 + m3 * 256 := wrap64 (by omega) (by omega)
 have w6 : IntKind.i64.wrap (m1 * 16777216 + m2 * 65536 + m3 * 256 + m4) = m1 * 16777216 + m2 * 65536 + m3 * 256 + m4 := wrap64 (by omega) (by omega)
 rw [w1, w2, w3, w4, w5, w6]
 refine ⟨by simp; omega, ?_⟩
 have hr := rem_lt (a := m1 * 16777216 + m2 * 65536 + m3 * 256 + m4) (n := n) (by omega) hn
 refine hK _ ?_
 clear hK K
 try refine vthen_n ?_
 refine VW.ret ⟨.inl rfl, _, _, _, _, rfl, ⟨0, rfl⟩, _, i4, h4, r4, rfl, hr.1, hr.2, hi4, rfl⟩
end Go.Proofs.YtoeblmcibheldaaDoor.V.W
end
section
namespace Go.Proofs.YtoeblmcibheldaaDoor.V.W
open Go Go.RowKit
def curP (A : Option Addr) (c : Nat) (b : List Int) (xs : List Int) (pv ot : PV) : Prop := ∃ (m i h : Int) (r : Fl), pv = .v false (.int .i64) (m) ∧ m ∈ xs ∧ 0 ≤ i ∧ ot = .root bC sC (.pr (.kz A c) r) (b, i, h)
theorem pick_vx (A : Option Addr) (c : Nat) (r : Fl) (b : List Int) (i h : Int) (xs : List Int) (hi : 0 ≤ i) (hl : b.length ≤ 1048576) (hx : 0 < xs.length) (hx2 : xs.length ≤ 100) :
  VX Tryd.prog 44 [.root bC sC (.pr (.kz A c) r) (b, i, h), .v false sI xs] 0 (curP A c b xs) := by
 refine VX.of_box hT Tryd.func44 rfl (by kernel_rfl) [(.tmp 4, false, .int .i64)] (by kernel_rfl) rfl fun bb => ?_
 show VW _ _ ([.root (.ibox 82 bb) sC (.pr (.kz A c) r) (b, i, h), .v false sI xs, D, D, D, D, D, D, D, D, D, D]) _
 repeat refine VW.seq ?_
 refine VW.regl hT fun K hK => ?_
 simp only [wq, simprocAttr]
 refine hK _ ?_
 clear hK K
 try refine vthen_n ?_
 repeat refine VW.seq ?_
 refine VW.regl hT fun K hK => ?_
 simp only [wq, simprocAttr]
 refine vcall_io 0 ?_
 simp only [wq, simprocAttr]
 refine vxcall_ex (below_vx A c r b i h xs.length hi hl (by omega)) ?_
 rintro pv ot ⟨m1, i1, h1, r1, rfl, ha1, hb1, hi1, rfl⟩
 simp only [wq, simprocAttr]
 refine ⟨decide_eq_true ⟨ha1, hb1⟩, ?_⟩
 refine hK _ ?_
 clear hK K
 try refine vthen_n ?_
 refine VW.ret ⟨.inl rfl, _, _, _, _, rfl, ⟨0, rfl⟩, _, i1, h1, r1, rfl, ?_, hi1, rfl⟩
 rw [List.getD_eq_getElem?_getD, List.getElem?_eq_getElem (by omega)]
 exact List.getElem_mem _
set_option maxRecDepth 20000 in
theorem new_vc (b : List Int) (hl : b.length ≤ 1048576) : VC Tryd.prog 32 [.v false sB b] (fun pv => ∃ (A : Option Addr) (c : Nat) (r : Fl) (h : Int), pv = .root bC sC (.pr (.kz A c) r) (b, 0, h)) := by
 refine (VC.of_vx (R := fun pv _ => ∃ (A : Option Addr) (c : Nat) (r : Fl) (h : Int), pv = .root bC sC (.pr (.kz A c) r) (b, 0, h)) ?_ (fun pv hp => by simp at hp; subst hp; rfl)).mono fun pv ⟨_, h⟩ => h
 refine VX.of_moved hT Tryd.func32 rfl (by kernel_rfl) [(.tmp 2, false, .int .i64)] (by kernel_rfl) (by simp) ?_
 show VW _ _ ([.v false sB b, D, D, D, D, D, D, D, D, D, D, D, D, D, D, D, D, D, D, D, D, D, D, D, D, D, D, D, D, D, D, D]) _
 repeat refine VW.seq ?_
 refine VW.regl hT fun K hK => ?_
 simp only [wq, simprocAttr]
 refine hK _ ?_
 clear hK K
 try refine vthen_n ?_
 repeat refine VW.seq ?_
 refine VW.regl hT fun K hK => ?_
 simp only [wq, simprocAttr]
 refine hK _ ?_
 clear hK K
 try refine vthen_n ?_
 repeat refine VW.seq ?_
 refine VW.regl hT fun K hK => ?_
 simp only [wq, simprocAttr]
 refine hK _ ?_
 clear hK K
 try refine vthen_n ?_
 repeat refine VW.seq ?_
 refine VW.block ?_
 refine VW.loop (α := Nat × Int) [(0, none), (3, none), (4, none)] (fun q => [.v false sB b, D, D, .v false (.int .i64) (q.2), .v false (.int .i64) (q.1), D, D, D, D, D, D, D, D, D, D, D, D, D, D, D, D, D, D, D, D, D, D, D, D, D, D, D]) (fun q => q.1 ≤ b.length) (fun q => b.length - q.1) ⟨(0, IntKind.i64.wrap (98663 + (b.length : Int))), by show 0 ≤ b.length; omega, ?_⟩ fun q hi => ?_
 ·simp only [wn, wq, simprocAttr]
  try rfl
 obtain ⟨i, hh⟩ := q
 simp only at hi ⊢
 repeat refine VW.seq ?_
 refine VW.regl hT fun K hK => ?_
 simp only [wq, simprocAttr]
 refine vbr (fun g => ?_) (fun g => ?_) <;> simp only [wq, simprocAttr]
 ·have hlt : i < b.length := by
   have : (i : Int) < (b.length : Int) := of_decide_eq_true g
   omega
  refine hK _ ?_
  clear hK K
  try refine vthen_n ?_
  repeat refine VW.seq ?_
  refine VW.cond rfl (fun hc => ?_) (fun hc => ?_)
  ·refine VW.skip (vthen_n ?_)
   repeat refine VW.seq ?_
   refine VW.block ?_
   repeat refine VW.seq ?_
   refine VW.regl hT fun K hK => ?_
   simp only [wq, simprocAttr]
   refine ⟨decide_eq_true ⟨Int.natCast_nonneg _, by show (i : Int) < (b.length : Int); omega⟩, ?_⟩
   refine hK _ ?_
   clear hK K
   try refine vthen_n ?_
   repeat refine VW.seq ?_
   refine VW.regl hT fun K hK => ?_
   simp only [wq, simprocAttr]
   refine hK _ ?_
   clear hK K
   try refine vthen_n ?_
   rw [wrap64 (x := (i : Int) + 1) (by omega) (by omega)]
   refine ⟨(i + 1, ?v), ?pa, ?ph, ?pm⟩
   case ph =>
    simp only [wn, wq, simprocAttr]
    try rfl
   case pa => exact hlt
   case pm => show b.length - (i + 1) < b.length - i; omega
  ·refine VW.exit ?_
   show vthen _ _ _ .normal _
   refine vthen_n ?_
   repeat refine VW.seq ?_
   refine VW.regl hT fun K hK => ?_
   simp only [wq, simprocAttr]
   refine hK _ ?_
   clear hK K
   try refine vthen_n ?_
   refine VW.retag (ι := Option Addr × Nat) (g := 31) (fun j => .pr (.kz j.1 j.2) .fz) _ rfl (fun w Z cs B h => kz_l rfl h) (fun j => by simp only [wq, simprocAttr]; rfl) (fun j => ?_)
   exact VW.ret ⟨.inl rfl, _, _, rfl, j.1, j.2, _, _, rfl⟩
 ·refine hK _ ?_
  clear hK K
  try refine vthen_n ?_
  repeat refine VW.seq ?_
  refine VW.cond rfl (fun hc => ?_) (fun hc => ?_)
  ·cases hc
  ·refine VW.exit ?_
   show vthen _ _ _ .normal _
   refine vthen_n ?_
   repeat refine VW.seq ?_
   refine VW.regl hT fun K hK => ?_
   simp only [wq, simprocAttr]
   refine hK _ ?_
   clear hK K
   try refine vthen_n ?_
   refine VW.retag (ι := Option Addr × Nat) (g := 31) (fun j => .pr (.kz j.1 j.2) .fz) _ rfl (fun w Z cs B h => kz_l rfl h) (fun j => by simp only [wq, simprocAttr]; rfl) (fun j => ?_)
   exact VW.ret ⟨.inl rfl, _, _, rfl, j.1, j.2, _, _, rfl⟩
end Go.Proofs.YtoeblmcibheldaaDoor.V.W
end
section
namespace Go.Proofs.YtoeblmcibheldaaDoor.V.W
open Go Go.RowKit
def treeR (A : Option Addr) (c : Nat) (b : List Int) (pv ot : PV) : Prop := ∃ (t : List Nd) (i h : Int) (r : Fl), pv = .root (.val false) sNS .own t ∧ (treeOk t = true ∧ t.length ≤ 11) ∧ 0 ≤ i ∧ ot = .root bC sC (.pr (.kz A c) r) (b, i, h)
set_option maxRecDepth 20000 in
theorem tree_vx (A : Option Addr) (c : Nat) (r : Fl) (b : List Int) (i h : Int) (hi : 0 ≤ i) (hl : b.length ≤ 1048576) :
  VX Tryd.prog 43 [.root bC sC (.pr (.kz A c) r) (b, i, h)] 0 (treeR A c b) := by
 refine VX.of_box hT Tryd.func43 rfl (by kernel_rfl) [(.tmp 2, false, sNS)] (by kernel_rfl) rfl fun bb => ?_
 show VW _ _ ([.root (.ibox 82 bb) sC (.pr (.kz A c) r) (b, i, h), D, D, D, D, D, D, D, D, D, D, D, D, D, D, D, D, D, D, D, D, D, D, D, D, D, D, D, D, D, D, D, D, D, D, D]) _
 repeat refine VW.seq ?_
 refine VW.regl hT fun K hK => ?_
 simp only [wq, simprocAttr]
 refine hK _ ?_
 clear hK K
 try refine vthen_n ?_
 repeat refine VW.seq ?_
 refine VW.regl hT fun K hK => ?_
 simp only [wq, simprocAttr]
 refine hK _ ?_
 clear hK K
 try refine vthen_n ?_
 repeat refine VW.seq ?_
 refine VW.regl hT fun K hK => ?_
 simp only [wq, simprocAttr]
 refine hK _ ?_
 clear hK K
 try refine vthen_n ?_
 repeat refine VW.seq ?_
 refine VW.block ?_
 refine VW.loop (α := Nat × List Nd × Int × Int × Fl) [(0, none), (3, none), (4, none)] (fun q => [.root (.ibox 82 bb) sC (.pr (.kz A c) q.2.2.2.2) (b, q.2.2.1, q.2.2.2.1), D, D, .root (.val false) sNS .own q.2.1, .v false (.int .i64) (q.1), D, D, D, D, D, D, D, D, D, D, D, D, D, D, D, D, D, D, D, D, D, D, D, D, D, D, D, D, D, D, D]) (fun q => q.1 ≤ 10 ∧ (treeOk q.2.1 = true ∧ q.2.1.length ≤ q.1 + 1) ∧ 0 ≤ q.2.2.1) (fun q => 11 - q.1) ⟨(0, [(-1, 0, 0)], i, h, r), ⟨by show 0 ≤ 10; omega, ⟨by show treeOk [(-1, 0, 0)] = true; decide, Nat.le_refl _⟩, hi⟩, ?_⟩ fun q hq => ?_
 ·simp only [wn, wq, simprocAttr]
  try rfl
 obtain ⟨k, xs, i, h, r⟩ := q
 obtain ⟨hk, ⟨hok, hkl⟩, hi⟩ := hq
 simp only at hk hok hkl hi ⊢
 have hxl := treeOk_len hok
 repeat refine VW.seq ?_
 refine VW.regl hT fun K hK => ?_
 simp only [wq, simprocAttr]
 refine vcall_io 0 ?_
 simp only [wq, simprocAttr]
 refine vxcall_ex (below_vx A c r b i h 8 hi hl (by omega)) ?_
 rintro pv ot ⟨m1, i1, h1, r1, rfl, ha1, hb1, hi1, rfl⟩
 simp only [wq, simprocAttr]
 rw [wrap64 (by omega) (by omega)]
 refine hK _ ?_
 clear hK K
 try refine vthen_n ?_
 repeat refine VW.seq ?_
 refine VW.cond rfl (fun hc => ?_) (fun hc => ?_)
 ·have hk2 : (k : Int) < 3 + m1 := of_decide_eq_true hc
  refine VW.skip (vthen_n ?_)
  repeat refine VW.seq ?_
  refine VW.block ?_
  repeat refine VW.seq ?_
  refine VW.regl hT fun K hK => ?_
  simp only [wq, simprocAttr]
  refine vcall_io 0 ?_
  simp only [wq, simprocAttr]
  refine vxcall_ex (below_vx A c r1 b i1 h1 xs.length hi1 hl (by omega)) ?_
  rintro pv ot ⟨m2, i2, h2, r2, rfl, ha2, hb2, hi2, rfl⟩
  simp only [wq, simprocAttr]
  refine vcall_io 0 ?_
  simp only [wq, simprocAttr]
  refine vxcall_ex (below_vx A c r2 b i2 h2 4 hi2 hl (by omega)) ?_
  rintro pv ot ⟨m3, i3, h3, r3, rfl, ha3, hb3, hi3, rfl⟩
  simp only [wq, simprocAttr]
  refine vcall_io 0 ?_
  simp only [wq, simprocAttr]
  refine vxcall_ex (pick_vx A c r3 b i3 h3 [0, 0, 1, 1, 2, 4] hi3 hl (by decide) (by decide)) ?_
  rintro pv ot ⟨m4, i4, h4, r4, rfl, ha4, hi4, rfl⟩
  simp only [wq, simprocAttr]
  refine hK _ ?_
  clear hK K
  try refine vthen_n ?_
  repeat refine VW.seq ?_
  refine VW.mixl hT hm 0 5 (by kernel_rfl) fun K hK => ?_
  simp only [wq, simprocAttr]
  refine ⟨by kernel_rfl, by kernel_rfl, by simp [limOk]; omega, by kernel_rfl, by simp [limOk]; omega, ?_⟩
  refine hK _ ?_
  clear hK K
  try refine vthen_n ?_
  repeat refine VW.seq ?_
  refine VW.regl hT fun K hK => ?_
  simp only [wq, simprocAttr]
  refine vcall_of (specTreeOk_vc _ (by simp; omega)) ?_
  simp only [wq, simprocAttr]
  refine hK _ ?_
  clear hK K
  try refine vthen_n ?_
  repeat refine VW.seq ?_
  refine VW.cond rfl (fun hc => ?_) (fun hc => ?_)
  ·refine VW.weak (weak_norm [(0, none), (4, none), (6, none)] _) ?_
   simp only [wn, wq, simprocAttr]
   repeat refine VW.seq ?_
   refine VW.regl hT fun K hK => ?_
   simp only [wq, simprocAttr]
   refine hK _ ?_
   clear hK K
   try refine vthen_n ?_
   show vthen _ _ _ .normal _
   refine vthen_n ?_
   repeat refine VW.seq ?_
   refine VW.regl hT fun K hK => ?_
   simp only [wq, simprocAttr]
   refine hK _ ?_
   clear hK K
   try refine vthen_n ?_
   refine ⟨(k + 1, xs ++ [(m2, m3, m4)], i4, h4, r4), ⟨by show k + 1 ≤ 10; omega, ⟨hc, by show (xs ++ [(m2, m3, m4)]).length ≤ k + 1 + 1; rw [List.length_append, List.length_singleton]; omega⟩, hi4⟩, ?_, by show 11 - (k + 1) < 11 - k; omega⟩
   simp only [wn, wq, simprocAttr]
   rw [wrap64 (by omega) (by omega)]
   rfl
  ·refine VW.skip ?_
   show vthen _ _ _ .normal _
   refine vthen_n ?_
   repeat refine VW.seq ?_
   refine VW.regl hT fun K hK => ?_
   simp only [wq, simprocAttr]
   refine hK _ ?_
   clear hK K
   try refine vthen_n ?_
   refine ⟨(k + 1, xs, i4, h4, r4), ⟨by show k + 1 ≤ 10; omega, ⟨hok, by show xs.length ≤ k + 1 + 1; omega⟩, hi4⟩, ?_, by show 11 - (k + 1) < 11 - k; omega⟩
   simp only [wn, wq, simprocAttr]
   rw [wrap64 (by omega) (by omega)]
   rfl
 ·refine VW.exit ?_
  show vthen _ _ _ .normal _
  refine vthen_n ?_
  repeat refine VW.seq ?_
  refine VW.regl hT fun K hK => ?_
  simp only [wq, simprocAttr]
  refine hK _ ?_
  clear hK K
  try refine vthen_n ?_
  refine VW.ret ⟨.inl rfl, _, _, _, _, rfl, ⟨0, rfl⟩, xs, i1, h1, r1, rfl, ⟨hok, by omega⟩, hi1, rfl⟩
end Go.Proofs.YtoeblmcibheldaaDoor.V.W
end
section
namespace Go.Proofs.YtoeblmcibheldaaDoor.V.W
open Go Go.RowKit
def onceR (A : Option Addr) (c : Nat) (b : List Int) (pv ot : PV) : Prop := ∃ (d : Bool) (i h : Int) (r : Fl), pv = .v false .bool (d) ∧ 0 ≤ i ∧ ot = .root bC sC (.pr (.kz A c) r) (b, i, h)
theorem once_vx (A : Option Addr) (c : Nat) (r : Fl) (b : List Int) (i h : Int) (n : Int) (hi : 0 ≤ i) (hl : b.length ≤ 1048576) (hn : 1 ≤ n) :
  VX Tryd.prog 46 [.root bC sC (.pr (.kz A c) r) (b, i, h), .v false (.int .i64) (n)] 0 (onceR A c b) := by
 refine VX.of_box hT Tryd.func46 rfl (by kernel_rfl) [(.tmp 4, false, .bool)] (by kernel_rfl) rfl fun bb => ?_
 show VW _ _ ([.root (.ibox 82 bb) sC (.pr (.kz A c) r) (b, i, h), .v false (.int .i64) (n), D, D, D, D, D, D, D]) _
 repeat refine VW.seq ?_
 refine VW.regl hT fun K hK => ?_
 simp only [wq, simprocAttr]
 refine hK _ ?_
 clear hK K
 try refine vthen_n ?_
 repeat refine VW.seq ?_
 refine VW.regl hT fun K hK => ?_
 simp only [wq, simprocAttr]
 refine vcall_io 0 ?_
 simp only [wq, simprocAttr]
 refine vxcall_ex (below_vx A c r b i h n hi hl hn) ?_
 rintro pv ot ⟨m1, i1, h1, r1, rfl, ha1, hb1, hi1, rfl⟩
 simp only [wq, simprocAttr]
 refine hK _ ?_
 clear hK K
 try refine vthen_n ?_
 exact VW.ret ⟨.inl rfl, _, _, _, _, rfl, ⟨0, rfl⟩, _, i1, h1, r1, rfl, hi1, rfl⟩
def guardR (t : List Nd) (A : Option Addr) (c : Nat) (b : List Int) (pv ot : PV) : Prop := ∃ (g : List Bool) (i h : Int) (r : Fl), pv = .root (.val true) sG .own g ∧ g.length = t.length ∧ (0 < t.length → g.getD 0 false = true) ∧ 0 ≤ i ∧ ot = .root bC sC (.pr (.kz A c) r) (b, i, h)
set_option maxRecDepth 20000 in
set_option maxHeartbeats 4000000 in
theorem guardD_vx (A : Option Addr) (c : Nat) (r : Fl) (b : List Int) (i h : Int) (t : List Nd) (hi : 0 ≤ i) (hl : b.length ≤ 1048576) (ht : t.length ≤ 100) :
  VX Tryd.prog 48 [.root bC sC (.pr (.kz A c) r) (b, i, h), .v false sNS t] 0 (guardR t A c b) := by
 refine VX.of_box hT Tryd.func48 rfl (by kernel_rfl) [(.cell 4 48, true, sG)] (by kernel_rfl) rfl fun bb => ?_
 show VW _ _ ([.root (.ibox 82 bb) sC (.pr (.kz A c) r) (b, i, h), .v false sNS t, D, D, D, D, D, D, D, D, D, D, D, D, D, D, D, D, D, D, D, D, D, D, D, D, D]) _
 repeat refine VW.seq ?_
 refine VW.regl hT fun K hK => ?_
 simp only [wq, simprocAttr]
 refine hK _ ?_
 clear hK K
 try refine vthen_n ?_
 repeat refine VW.seq ?_
 refine VW.regl hT fun K hK => ?_
 simp only [wq, simprocAttr]
 refine hK _ ?_
 clear hK K
 try refine vthen_n ?_
 repeat refine VW.seq ?_
 refine VW.regl hT fun K hK => ?_
 simp only [wq, simprocAttr]
 refine hK _ ?_
 clear hK K
 try refine vthen_n ?_
 repeat refine VW.seq ?_
 refine VW.block ?_
 refine VW.loop (α := List Bool × Int × Int × Fl) [(0, none), (1, none), (4, none), (5, none), (6, none)] (fun q => [.root (.ibox 82 bb) sC (.pr (.kz A c) q.2.2.2) (b, q.2.1, q.2.2.1), .v false sNS t, D, D, .root (.box 48) sG .own [], .root (.box 48) sG .own q.1, .v false (.int .i64) (q.1.length), D, D, D, D, D, D, D, D, D, D, D, D, D, D, D, D, D, D, D, D]) (fun q => q.1.length ≤ t.length ∧ (0 < q.1.length → q.1.getD 0 false = true) ∧ 0 ≤ q.2.1) (fun q => t.length - q.1.length) ⟨([], i, h, r), ⟨Nat.zero_le _, fun h => absurd h (Nat.lt_irrefl 0), hi⟩, ?_⟩ fun q hq => ?_
 ·simp only [wn, wq, simprocAttr]
  try rfl
 obtain ⟨g, i, h, r⟩ := q
 obtain ⟨hk, hg0, hi⟩ := hq
 simp only at hk hg0 hi ⊢
 repeat refine VW.seq ?_
 refine VW.regl hT fun K hK => ?_
 simp only [wq, simprocAttr]
 refine hK _ ?_
 clear hK K
 try refine vthen_n ?_
 repeat refine VW.seq ?_
 refine VW.cond rfl (fun hc => ?_) (fun hc => ?_)
 ·have hlt : g.length < t.length := by simpa using hc
  have hL : limOk (g.length + 1) 1 = true := by simp only [limOk]; exact decide_eq_true (by omega)
  refine VW.skip (vthen_n ?_)
  repeat refine VW.seq ?_
  refine VW.block ?_
  rcases Nat.eq_zero_or_pos g.length with hz | hz
  ·have h0 : ((g.length : Int) == 0) = true := by rw [hz]; rfl
   repeat refine VW.seq ?_
   refine VW.any hT hm fun K hK W hW => ?_
   apply cutl; intro tK
   apply cutl; intro t8191
   apply cutl; intro t4095
   apply cutl; intro t1023
   apply cutl; intro t1021
   apply cutl; intro t511
   apply cutl; intro t509
   apply cutl; intro t255
   apply cutl; intro t253
   apply cutl; intro t127
   apply cutl; intro t125
   apply cutl; intro t63
   apply cutl; intro t61
   apply cutl; intro t31
   apply cutl; intro t29
   apply cutl; intro t7
   ·refine hW.takeF 0 0 1 _ (by kernel_rfl) ?_
    simp only [wy, wq, simprocAttr]
    refine hW.take 1 2 5 _ (by kernel_rfl) ?_
    simp only [wy, wq, simprocAttr]
    refine hW.all 5 [(1, 7), (3, 13)] _ (by kernel_rfl) (by simp) ?_
    simp only [wy, wq, simprocAttr]
    refine ⟨?_, ?_⟩
    ·exact t7.h
    ·rw [h0]
     refine hW.take 13 4 29 _ (by kernel_rfl) ?_
     simp only [wy, wq, simprocAttr]
     exact t29.h
   ·refine hW.all 7 [(3, 15)] _ (by kernel_rfl) (by simp) ?_
    simp only [wy, wq, simprocAttr]
    skip
    rw [h0]
    refine hW.take 15 4 31 _ (by kernel_rfl) ?_
    simp only [wy, wq, simprocAttr]
    exact t31.h
   ·refine hW.all 29 [(1, 31), (5, 61)] _ (by kernel_rfl) (by simp) ?_
    simp only [wy, wq, simprocAttr]
    exact ⟨t31.h, t61.h⟩
   ·refine hW.all 31 [(5, 63)] _ (by kernel_rfl) (by simp) ?_
    simp only [wy, wq, simprocAttr]
    exact t63.h
   ·refine hW.all 61 [(1, 63), (6, 125)] _ (by kernel_rfl) (by simp) ?_
    simp only [wy, wq, simprocAttr]
    exact ⟨t63.h, t125.h⟩
   ·refine hW.all 63 [(6, 127)] _ (by kernel_rfl) (by simp) ?_
    simp only [wy, wq, simprocAttr]
    exact t127.h
   ·refine hW.all 125 [(1, 127), (7, 253)] _ (by kernel_rfl) (by simp) ?_
    simp only [wy, wq, simprocAttr]
    exact ⟨t127.h, t253.h⟩
   ·refine hW.all 127 [(7, 255)] _ (by kernel_rfl) (by simp) ?_
    simp only [wy, wq, simprocAttr]
    exact t255.h
   ·refine hW.all 253 [(1, 255), (8, 509)] _ (by kernel_rfl) (by simp) ?_
    simp only [wy, wq, simprocAttr]
    exact ⟨t255.h, t509.h⟩
   ·refine hW.all 255 [(8, 511)] _ (by kernel_rfl) (by simp) ?_
    simp only [wy, wq, simprocAttr]
    exact t511.h
   ·refine hW.all 509 [(1, 511), (9, 1021)] _ (by kernel_rfl) (by simp) ?_
    simp only [wy, wq, simprocAttr]
    exact ⟨t511.h, t1021.h⟩
   ·refine hW.all 511 [(9, 1023)] _ (by kernel_rfl) (by simp) ?_
    simp only [wy, wq, simprocAttr]
    exact t1023.h
   ·refine hW.all 1021 [(1, 1023)] _ (by kernel_rfl) (by simp) ?_
    simp only [wy, wq, simprocAttr]
    exact t1023.h
   ·refine hW.all 1023 [(10, 2047)] _ (by kernel_rfl) (by simp) ?_
    simp only [wy, wq, simprocAttr]
    skip
    refine ⟨hL, ?_⟩
    refine hW.takeF 2047 11 4095 _ (by kernel_rfl) ?_
    simp only [wy, wq, simprocAttr]
    exact t4095.h
   ·refine hW.all 4095 [(12, 8191)] _ (by kernel_rfl) (by simp) ?_
    simp only [wy, wq, simprocAttr]
    exact t8191.h
   ·refine hW.done 8191 _ (by kernel_rfl) ?_
    exact tK.h
   refine hK _ ?_
   clear hW W hK K
   show vthen _ _ _ .normal _
   refine vthen_n ?_
   repeat refine VW.seq ?_
   refine VW.regl hT fun K hK => ?_
   simp only [wq, simprocAttr]
   refine hK _ ?_
   clear hK K
   try refine vthen_n ?_
   refine ⟨(g ++ [true], i, h, r), ⟨by show (g ++ [true]).length ≤ _; rw [List.length_append]; exact hlt, fun _ => ?_, hi⟩, ?_, by show t.length - (g ++ [true]).length < t.length - g.length; rw [List.length_append, List.length_singleton]; omega⟩
   ·have : g = [] := List.eq_nil_of_length_eq_zero hz
    subst this
    rfl
   simp only [wn, wq, simprocAttr]
   rw [List.length_append, List.length_singleton, wrap64 (by omega) (by omega), show (g.length : Int) + 1 = ((g.length + 1 : Nat) : Int) by omega]
  ·have h0 : ((g.length : Int) == 0) = false := by
    rw [beq_eq_false_iff_ne]
    omega
   repeat refine VW.seq ?_
   refine VW.any hT hm fun K hK W hW => ?_
   apply cutl; intro tK
   apply cutl; intro t8191
   apply cutl; intro t4095
   apply cutl; intro t1023
   apply cutl; intro t1021
   apply cutl; intro t511
   apply cutl; intro t509
   apply cutl; intro t255
   apply cutl; intro t253
   apply cutl; intro t127
   apply cutl; intro t125
   apply cutl; intro t63
   apply cutl; intro t61
   apply cutl; intro t31
   apply cutl; intro t29
   apply cutl; intro t7
   ·refine hW.takeF 0 0 1 _ (by kernel_rfl) ?_
    simp only [wy, wq, simprocAttr]
    refine hW.take 1 2 5 _ (by kernel_rfl) ?_
    simp only [wy, wq, simprocAttr]
    refine hW.all 5 [(1, 7), (3, 13)] _ (by kernel_rfl) (by simp) ?_
    simp only [wy, wq, simprocAttr]
    refine ⟨?_, ?_⟩
    ·exact t7.h
    ·rw [h0]
     refine hW.take 13 4 29 _ (by kernel_rfl) ?_
     simp only [wy, wq, simprocAttr]
     exact t29.h
   ·refine hW.all 7 [(3, 15)] _ (by kernel_rfl) (by simp) ?_
    simp only [wy, wq, simprocAttr]
    skip
    rw [h0]
    refine hW.take 15 4 31 _ (by kernel_rfl) ?_
    simp only [wy, wq, simprocAttr]
    exact t31.h
   ·refine hW.all 29 [(1, 31), (5, 61)] _ (by kernel_rfl) (by simp) ?_
    simp only [wy, wq, simprocAttr]
    exact ⟨t31.h, t61.h⟩
   ·refine hW.all 31 [(5, 63)] _ (by kernel_rfl) (by simp) ?_
    simp only [wy, wq, simprocAttr]
    exact t63.h
   ·refine hW.all 61 [(1, 63), (6, 125)] _ (by kernel_rfl) (by simp) ?_
    simp only [wy, wq, simprocAttr]
    refine ⟨?_, ?_⟩
    ·exact t63.h
    ·refine vcall_io 0 ?_
     simp only [wq, simprocAttr]
     refine vxcall_ex (once_vx A c r b i h 5 hi hl (by omega)) ?_
     rintro pv ot ⟨d1, i1, h1, r1, rfl, hi1, rfl⟩
     simp only [wq, simprocAttr]
     revert d1 i1 h1 r1 hi1
     exact t125.h
   ·refine hW.all 63 [(6, 127)] _ (by kernel_rfl) (by simp) ?_
    simp only [wy, wq, simprocAttr]
    skip
    refine vcall_io 0 ?_
    simp only [wq, simprocAttr]
    refine vxcall_ex (once_vx A c r b i h 5 hi hl (by omega)) ?_
    rintro pv ot ⟨d1, i1, h1, r1, rfl, hi1, rfl⟩
    simp only [wq, simprocAttr]
    revert d1 i1 h1 r1 hi1
    exact t127.h
   ·intro d1 i1 h1 r1 hi1
    refine hW.all 125 [(1, 127), (7, 253)] _ (by kernel_rfl) (by simp) ?_
    simp only [wy, wq, simprocAttr]
    refine ⟨?_, ?_⟩
    ·revert d1 i1 h1 r1 hi1
     exact t127.h
    ·revert d1 i1 h1 r1 hi1
     exact t253.h
   ·intro d1 i1 h1 r1 hi1
    refine hW.all 127 [(7, 255)] _ (by kernel_rfl) (by simp) ?_
    simp only [wy, wq, simprocAttr]
    skip
    revert d1 i1 h1 r1 hi1
    exact t255.h
   ·intro d1 i1 h1 r1 hi1
    refine hW.all 253 [(1, 255), (8, 509)] _ (by kernel_rfl) (by simp) ?_
    simp only [wy, wq, simprocAttr]
    refine ⟨?_, ?_⟩
    ·revert d1 i1 h1 r1 hi1
     exact t255.h
    ·revert d1 i1 h1 r1 hi1
     exact t509.h
   ·intro d1 i1 h1 r1 hi1
    refine hW.all 255 [(8, 511)] _ (by kernel_rfl) (by simp) ?_
    simp only [wy, wq, simprocAttr]
    skip
    revert d1 i1 h1 r1 hi1
    exact t511.h
   ·intro d1 i1 h1 r1 hi1
    refine hW.all 509 [(1, 511), (9, 1021)] _ (by kernel_rfl) (by simp) ?_
    simp only [wy, wq, simprocAttr]
    refine ⟨?_, ?_⟩
    ·revert d1 i1 h1 r1 hi1
     exact t511.h
    ·revert d1 i1 h1 r1 hi1
     exact t1021.h
   ·intro d1 i1 h1 r1 hi1
    refine hW.all 511 [(9, 1023)] _ (by kernel_rfl) (by simp) ?_
    simp only [wy, wq, simprocAttr]
    skip
    revert d1 i1 h1 r1 hi1
    exact t1023.h
   ·intro d1 i1 h1 r1 hi1
    refine hW.all 1021 [(1, 1023)] _ (by kernel_rfl) (by simp) ?_
    simp only [wy, wq, simprocAttr]
    skip
    revert d1 i1 h1 r1 hi1
    exact t1023.h
   ·intro d1 i1 h1 r1 hi1
    refine hW.all 1023 [(10, 2047)] _ (by kernel_rfl) (by simp) ?_
    simp only [wy, wq, simprocAttr]
    skip
    refine ⟨hL, ?_⟩
    refine hW.takeF 2047 11 4095 _ (by kernel_rfl) ?_
    simp only [wy, wq, simprocAttr]
    revert d1 i1 h1 r1 hi1
    exact t4095.h
   ·intro d1 i1 h1 r1 hi1
    refine hW.all 4095 [(12, 8191)] _ (by kernel_rfl) (by simp) ?_
    simp only [wy, wq, simprocAttr]
    skip
    revert d1 i1 h1 r1 hi1
    exact t8191.h
   ·intro d1 i1 h1 r1 hi1
    refine hW.done 8191 _ (by kernel_rfl) ?_
    revert d1 i1 h1 r1 hi1
    exact tK.h
   intro d1 i1 h1 r1 hi1
   refine hK _ ?_
   clear hW W hK K
   show vthen _ _ _ .normal _
   refine vthen_n ?_
   repeat refine VW.seq ?_
   refine VW.regl hT fun K hK => ?_
   simp only [wq, simprocAttr]
   refine hK _ ?_
   clear hK K
   try refine vthen_n ?_
   refine ⟨(g ++ [!d1], i1, h1, r1), ⟨by show (g ++ [!d1]).length ≤ _; rw [List.length_append]; exact hlt, fun _ => ?_, hi1⟩, ?_, by show t.length - (g ++ [!d1]).length < t.length - g.length; rw [List.length_append, List.length_singleton]; omega⟩
   ·show (g ++ [!d1]).getD 0 false = true
    rw [List.getD_eq_getElem?_getD, List.getElem?_append_left hz, ← List.getD_eq_getElem?_getD]
    exact hg0 hz
   simp only [wn, wq, simprocAttr]
   rw [List.length_append, List.length_singleton, wrap64 (by omega) (by omega), show (g.length : Int) + 1 = ((g.length + 1 : Nat) : Int) by omega]
 ·have hge : g.length = t.length := by
   have hc : ¬ (g.length : Int) < (t.length : Int) := of_decide_eq_false hc
   omega
  refine VW.exit ?_
  show vthen _ _ _ .normal _
  refine vthen_n ?_
  repeat refine VW.seq ?_
  refine VW.regl hT fun K hK => ?_
  simp only [wq, simprocAttr]
  refine hK _ ?_
  clear hK K
  try refine vthen_n ?_
  exact VW.ret ⟨.inl rfl, _, _, _, _, rfl, ⟨0, rfl⟩, g, i, h, r, rfl, hge, fun h => hg0 (by omega), hi, rfl⟩
end Go.Proofs.YtoeblmcibheldaaDoor.V.W
end
section
namespace Go.Proofs.YtoeblmcibheldaaDoor.V.W
open Go Go.RowKit
theorem up_two {n i : Nat} (h : n ≤ 2 ^ i) : up n ≤ 2 ^ i := by
 rw [up]
 split
 ·exact Nat.zero_le _
 ·rename_i hn
  refine Nat.pow_le_pow_right (by omega) ?_
  have : (2 * n - 1).log2 < i + 1 := (Nat.log2_lt (by omega)).2 (by rw [Nat.pow_succ]; omega)
  omega
/-- a window's bound, by how many nodes come from it on -/
def be (m : Nat) : Nat := if m = 0 then 0 else 2 ^ (6 + (m - 2))
theorem be_two {m : Nat} (h : 2 ≤ m) : be (m + 1) = 2 * be m := by
 rw [be, be, if_neg (by omega), if_neg (by omega), show 6 + (m + 1 - 2) = 6 + (m - 2) + 1 by omega, Nat.pow_succ]
 omega
theorem be_one : be 1 = 64 ∧ be 2 = 64 := ⟨rfl, rfl⟩
theorem be_sum (n k : Nat) : ∀ m, m ≤ n → (m ≤ k + 1 ∧ ((List.range m).map fun j => if k < j then be (n - j) else 0).sum = 0) ∨ (((List.range m).map fun j => if k < j then be (n - j) else 0).sum + (if m = n then 0 else be (n + 1 - m)) ≤ be (n - k) ∧ k + 1 < m)
 | 0, _ => .inl ⟨by omega, rfl⟩
 | m + 1, h => by
  rw [List.range_succ, List.map_append, List.sum_append_nat]
  simp only [List.map_cons, List.map_nil, List.sum_cons, List.sum_nil, Nat.add_zero]
  have e1 : n + 1 - (m + 1) = n - m := by omega
  rw [e1]
  rcases be_sum n k m (by omega) with ⟨h1, h2⟩ | ⟨h1, h2⟩
  ·rw [h2]
   by_cases hk : k < m
   ·obtain rfl : m = k + 1 := by omega
    rw [if_pos hk]
    refine .inr ⟨?_, by omega⟩
    by_cases hn : k + 1 + 1 = n
    ·rw [if_pos hn, show n - (k + 1) = 1 by omega, show n - k = 2 by omega, be_one.1, be_one.2]
     omega
    ·rw [if_neg hn]
     have := be_two (m := n - (k + 1)) (by omega)
     rw [show n - (k + 1) + 1 = n - k by omega] at this
     omega
   ·rw [if_neg hk]
    exact .inl ⟨by omega, by omega⟩
  ·rw [if_pos (by omega)]
   rw [if_neg (by omega)] at h1
   refine .inr ⟨?_, by omega⟩
   by_cases hn : m + 1 = n
   ·rw [if_pos hn, show n - m = 1 by omega, be_one.1]
    rw [show n + 1 - m = 2 by omega, be_one.2] at h1
    omega
   ·rw [if_neg hn]
    have := be_two (m := n - m) (by omega)
    rw [show n - m + 1 = n + 1 - m by omega] at this
    omega
theorem win_be {t : List Nd} {s : List Int} (hok : treeOk t = true) (h64 : ∀ j, j < t.length → s.getD j 0 ≤ 64) : ∀ (f k : Nat), t.length - k ≤ f → k < t.length → win t s k ≤ be (t.length - k)
 | 0, k, h, hk => by omega
 | f + 1, k, h, hk => by
  have hb : be (t.length - k) = 2 ^ (6 + (t.length - k - 2)) := by rw [be, if_neg (by omega)]
  rw [win_eq hok s hk]
  split
  ·rw [hb]
   refine up_two ?_
   rw [← hb]
   have h1 : ksum t s k ≤ wsum (fun j => be (t.length - j)) (kids t k t.length) := by
    refine wsum_bd fun a ha => ?_
    obtain ⟨j, rfl, h3, h4, h5, h6⟩ := kids_pos hok ha
    exact win_be hok h64 f j (by omega) h4
   have h2 := kids_above (fun j => be (t.length - j)) t k fun a ha => by
    obtain ⟨j, rfl, h3, h4, h5, h6⟩ := kids_pos hok ha
    omega
   rcases be_sum t.length k t.length (Nat.le_refl _) with ⟨h3, h4⟩ | ⟨h3, h4⟩
   ·omega
   ·rw [if_pos rfl] at h3
    omega
  ·have h1 := h64 k hk
   have h2 : 2 ^ 6 ≤ be (t.length - k) := by rw [hb]; exact Nat.pow_le_pow_right (by omega) (by omega)
   have h2 : 64 ≤ be (t.length - k) := h2
   omega
theorem small_fits {t : List Nd} {s : List Int} (hok : treeOk t = true) (hl : s.length = t.length) (h : ∀ j, j < t.length → (s.getD j 0 = 0 ∨ s.getD j 0 = 16 ∨ s.getD j 0 = 32 ∨ s.getD j 0 = 64) ∧ ((t.getD j z).2.2 = 0 → s.getD j 0 = 0)) : newOk t s = true := by
 have htl := treeOk_len hok
 have h64 : ∀ j, j < t.length → s.getD j 0 ≤ 64 := fun j hj => by
  have := (h j hj).1
  omega
 have hs : sizesOk t s = true := by
  refine sizesOk_iff.2 ⟨hok, hl, fun k hk => ?_⟩
  obtain ⟨h1, h2⟩ := h k hk
  rw [sizeBad]
  by_cases hz : s.getD k 0 = 0
  ·rw [hz]; rfl
  ·have hd : ((t.getD k z).2.2 == 0) = false := by
    rw [beq_eq_false_iff_ne]
    exact fun e => hz (h2 e)
   rw [hd, Bool.false_or]
   rcases h1 with e | e | e | e <;> rw [e] <;> rfl
 have hw := win_be hok h64 t.length 0 (by omega) (by omega)
 have hb : be (t.length - 0) ≤ 65536 := by
  rw [be]
  split
  ·omega
  ·have : 2 ^ (6 + (t.length - 0 - 2)) ≤ 2 ^ 16 := Nat.pow_le_pow_right (by omega) (by omega)
   have e : (2 : Nat) ^ 16 = 65536 := rfl
   omega
 rw [newOk, fits, hs, decide_eq_true (by omega), Bool.true_and, Bool.true_and, Bool.not_eq_true', List.any_eq_false]
 intro x hx
 obtain ⟨j, h1, rfl⟩ := List.getElem_of_mem hx
 have := h64 j (by omega)
 rw [List.getD_eq_getElem?_getD, List.getElem?_eq_getElem h1] at this
 have : s[j] ≤ 64 := this
 simpa using this
end Go.Proofs.YtoeblmcibheldaaDoor.V.W
end

/- Texts K8 J2 Q0 J3 J11 K4 J4 J6 H3 E7 W2 T1 W3 W4 T2 W10 F0 F1 F2 E1 E4 N6 E3 I1 W5 W6 F3 F4 N2 N7 F5 F6 F7 F8 N1 F9 in one. No condition. -/
import Derived.Test.YtoeblmcibheldaaGreatDoorZScripts3
import Derived.HandedShaped
import Derived.Lib.LaidU8
import Derived.OpenShut
import Derived.WalkKit
import Derived.Lib.SplitLaws
set_option linter.unnecessarySimpa false
set_option linter.unusedSimpArgs false
set_option linter.unusedVariables false
section
namespace Go.Proofs.YtoeblmcibheldaaGreatDoor.V
open Go Go.RowKit
theorem heap_of_var {P : Program} {W : World} {n : String} {g : Nat} {cs : Array Value} (hg : P.globalNamed n = some g) (h : W.var? P n = some cs) : ∃ x y, W.heap[g]? = some (.cells cs x y) := by
 unfold World.var? at h
 simp only [hg, Option.bind_some] at h
 split at h
 ·rename_i cs' x y e
  obtain rfl := Option.some.inj h
  exact ⟨x, y, e⟩
 ·cases h
theorem var_stays {P : Program} {W W' : World} {n : String} {g : Nat} {cs : Array Value} (hb : Below W.heap.size W W') (hg : P.globalNamed n = some g) (h : W.var? P n = some cs) : W'.var? P n = some cs := by
 obtain ⟨x, y, e⟩ := heap_of_var hg h
 have hlt : g < W.heap.size := by
  rcases Nat.lt_or_ge g W.heap.size with hl | hl
  ·exact hl
  ·rw [Array.getElem?_eq_none hl] at e; cases e
 unfold World.var?
 simp only [hg, Option.bind_some]
 rw [hb.block g hlt, e]
theorem strs_of_lits {H : Type} {enc : TypeId × Value → H} {P : Program} {w : World} {base : Nat} {sp : Nat → Bool} {held : Bool} {fuel : Nat} {t e : TypeId} {n : Nat} {cs : List Value} {zs : List (List UInt8)} {p : List MemPlace}
  (ht : P.underlying t = some (.array n e)) (he : P.underlying e = some .string) (hce : P.cellsOf e = 1) (hct : P.cellsOf t = n)
  (h : DataW.trod enc P w base sp held fuel t cs = some (.agg (zs.map fun z => .lit (.string z)), p)) : cs = zs.map fun z => Value.string ⟨z.toArray⟩ := by
 obtain ⟨xs, m1, rfl, hx1, hlen, hn3, hel⟩ := DataW.trod_array ht h
 simp only [Prod.mk.injEq, DataW.agg.injEq] at hx1
 have hxs := hx1.1
 rw [hct] at hlen
 have hzl : zs.length = n := by
  have := congrArg List.length hxs
  simp only [List.length_map] at this
  omega
 apply List.ext_getElem?
 intro i
 by_cases hi : i < n
 ·have h0 := hel i hi
  rw [hce, Nat.mul_one] at h0
  have hix : i < xs.length := by omega
  rw [List.getElem?_eq_getElem hix] at h0
  obtain ⟨s, hc, hb, _⟩ := DataW.trod_string he h0
  have h1 : cs[i]? = some (.string s) := by
   have := congrArg (·[0]?) hc
   simpa [List.getElem?_take, List.getElem?_drop] using this
  have h2 := congrArg (·[i]?) hxs
  simp only [List.getElem?_map, List.getElem?_eq_getElem hix, Option.map_some, List.getElem?_eq_getElem (show i < zs.length by omega), hb, Option.some.injEq, DataW.lit.injEq, Lit.string.injEq] at h2
  rw [h1, List.getElem?_map, List.getElem?_eq_getElem (show i < zs.length by omega), Option.map_some, h2]
 ·rw [List.getElem?_eq_none (by omega), List.getElem?_eq_none (by simp; omega)]
/-- a listed variable that is an array of integers -/
theorem ints_laid {P : Program} {W : World} {nm : String} {k : IntKind} {zs : List Int} {l : List (String × DataW Unit)} {g : Nat} {t e : TypeId} {n : Nat} (h : Go.laidMet P l W) (hm : (nm, Lib.tabData k zs) ∈ l)
  (hg : P.globalNamed nm = some g) (hty : (P.globals[g]?).map (·.type) = some t) (ht : P.underlying t = some (.array n e)) (he : P.underlying e = some (.int k)) (hce : P.cellsOf e = 1) (hct : P.cellsOf t = n) : ∃ cs x y, W.heap[g]? = some (.cells cs x y) ∧ cs = (zs.map fun z => Value.int k z).toArray := by
 obtain ⟨g', t', cs, fuel, p, hg', ht', hvar, hd⟩ := Lib.laidMet.reads h hm
 obtain rfl := Option.some.inj (hg.symm.trans hg')
 obtain rfl := Option.some.inj (hty.symm.trans ht')
 obtain ⟨x, y, e1⟩ := heap_of_var hg hvar
 exact ⟨cs, x, y, e1, by rw [← Lib.cells_of_tab ht he hce hct hd]⟩
/-- a listed variable that is an array of texts -/
theorem strs_laid {P : Program} {W : World} {nm : String} {zs : List (List UInt8)} {l : List (String × DataW Unit)} {g : Nat} {t e : TypeId} {n : Nat} (h : Go.laidMet P l W) (hm : (nm, DataW.agg (zs.map fun z => .lit (.string z))) ∈ l)
  (hg : P.globalNamed nm = some g) (hty : (P.globals[g]?).map (·.type) = some t) (ht : P.underlying t = some (.array n e)) (he : P.underlying e = some .string) (hce : P.cellsOf e = 1) (hct : P.cellsOf t = n) : ∃ cs x y, W.heap[g]? = some (.cells cs x y) ∧ cs = (zs.map fun z => Value.string ⟨z.toArray⟩).toArray := by
 obtain ⟨g', t', cs, fuel, p, hg', ht', hvar, hd⟩ := Lib.laidMet.reads h hm
 obtain rfl := Option.some.inj (hg.symm.trans hg')
 obtain rfl := Option.some.inj (hty.symm.trans ht')
 obtain ⟨x, y, e1⟩ := heap_of_var hg hvar
 exact ⟨cs, x, y, e1, by rw [← strs_of_lits ht he hce hct hd]⟩
def ifB (P : Program) (t : TypeId) : Bool := match P.underlying t with
 | some (.interface _) => true
 | _ => false
theorem ifB_ok {P : Program} {t : TypeId} (h : ifB P t = true) : ∃ m, P.underlying t = some (.interface m) := by
 unfold ifB at h
 split at h
 ·rename_i m e
  exact ⟨m, e⟩
 ·cases h
theorem iface_cs {H : Type} {enc : TypeId × Value → H} {P : Program} {w : World} {base : Nat} {sp : Nat → Bool} {held : Bool} {fuel : Nat} {t : TypeId} {cs : List Value} {nm : String} {d : DataW H} {p : List MemPlace} (ht : ∃ m, P.underlying t = some (.interface m)) (h : DataW.trod enc P w base sp held fuel t cs = some (.iface nm d, p)) : ∃ u v, cs = [Value.iface u v] := by
 obtain ⟨m, ht⟩ := ht
 cases fuel with
 | zero => simp [DataW.trod] at h
 | succ n =>
  unfold DataW.trod at h
  rw [ht] at h
  split at h <;> simp_all
/-- a listed variable that is an error -/
theorem iface_laid {P : Program} {W : World} {nm tn : String} {d : DataW Unit} {l : List (String × DataW Unit)} {g : Nat} {t : TypeId} (h : Go.laidMet P l W) (hm : (nm, DataW.iface tn d) ∈ l)
  (hg : P.globalNamed nm = some g) (hty : (P.globals[g]?).map (·.type) = some t) (ht : ∃ m, P.underlying t = some (.interface m)) : ∃ cs x y, W.heap[g]? = some (.cells cs x y) ∧ ∃ tp p, cs = #[Value.iface tp p] := by
 obtain ⟨g', t', cs, fuel, p, hg', ht', hvar, hd⟩ := Lib.laidMet.reads h hm
 obtain rfl := Option.some.inj (hg.symm.trans hg')
 obtain rfl := Option.some.inj (hty.symm.trans ht')
 obtain ⟨x, y, e1⟩ := heap_of_var hg hvar
 obtain ⟨u, v, e⟩ := iface_cs ht hd
 refine ⟨cs, x, y, e1, u, v, ?_⟩
 apply Array.toList_inj.1
 simpa using e
theorem cell_heap {W : World} {g : Nat} {m : Int} (h : W.cell? ⟨g, 0, none⟩ = some (.int .i64 m)) : ∃ cs x y, W.heap[g]? = some (.cells cs x y) ∧ ∃ m, cs[0]? = some (Value.int .i64 m) := by
 unfold World.cell? at h
 simp only at h
 split at h
 ·rename_i cs x y e
  exact ⟨cs, x, y, e, m, h⟩
 ·cases h
theorem gls_six {W : World} (h0 : ∃ cs x y, W.heap[0]? = some (.cells cs x y) ∧ cs = (([[119, 114, 105, 116, 101], [114, 101, 97, 100], [99, 117, 116], [111, 112, 101, 110]] : List (List UInt8)).map fun z => Value.string ⟨z.toArray⟩).toArray) (h6 : ∃ cs x y, W.heap[3]? = some (.cells cs x y) ∧ cs = (Lib.pow10Tab.map fun z => Value.int .u64 z).toArray)
  (h1 : ∃ cs x y, W.heap[1]? = some (.cells cs x y) ∧ cs = (Lib.asciiSpaceTab.map fun z => Value.int .u8 z).toArray) (h3 : ∃ cs x y, W.heap[7]? = some (.cells cs x y) ∧ ∃ tp p, cs = #[Value.iface tp p]) (h4 : ∃ cs x y, W.heap[8]? = some (.cells cs x y) ∧ ∃ tp p, cs = #[Value.iface tp p]) (h5 : ∃ cs x y, W.heap[4]? = some (.cells cs x y) ∧ ∃ m, cs[0]? = some (Value.int .i64 m)) : GOk (InZ W) W := .start (by
 intro p hp
 rcases List.mem_cons.1 hp with rfl | hp
 ·exact h0
 rcases List.mem_cons.1 hp with rfl | hp
 ·exact h6
 rcases List.mem_cons.1 hp with rfl | hp
 ·exact h1
 rcases List.mem_cons.1 hp with rfl | hp
 ·exact h3
 rcases List.mem_cons.1 hp with rfl | hp
 ·exact h4
 rcases List.mem_cons.1 hp with rfl | hp
 ·exact h5
 cases hp)
theorem gok_of6 {W : World} (hsh : W.ShapedOpen Tryz.prog) {l : List (String × DataW Unit)} (h : Go.laidMet Tryz.prog l W) (m0 : ("loop.example/g00986/impl.actWords", DataW.agg (([[119, 114, 105, 116, 101], [114, 101, 97, 100], [99, 117, 116], [111, 112, 101, 110]] : List (List UInt8)).map fun z => .lit (.string z))) ∈ l)
  (m6 : ("internal/strconv.uint64pow10", Lib.tabData .u64 Lib.pow10Tab) ∈ l) (m1 : ("strings.asciiSpace", Lib.tabData .u8 Lib.asciiSpaceTab) ∈ l) {n3 n4 : String} {d3 d4 : DataW Unit} (m3 : ("strconv.ErrSyntax", DataW.iface n3 d3) ∈ l) (m4 : ("strconv.ErrRange", DataW.iface n4 d4) ∈ l) : GOk (InZ W) W :=
 gls_six (strs_laid (n := 4) (t := 126) (e := 9) h m0 (by kernel_rfl) (by kernel_rfl) (by kernel_rfl) (by kernel_rfl) (by kernel_rfl) (by kernel_rfl)) (ints_laid (n := 20) (t := 212) (e := 187) h m6 (by kernel_rfl) (by kernel_rfl) (by kernel_rfl) (by kernel_rfl) (by kernel_rfl) (by kernel_rfl))
  (ints_laid (n := 256) (t := 161) (e := 5) h m1 (by kernel_rfl) (by kernel_rfl) (by kernel_rfl) (by kernel_rfl) (by kernel_rfl) (by kernel_rfl)) (iface_laid (t := 165) h m3 (by kernel_rfl) (by kernel_rfl) (ifB_ok (by kernel_rfl))) (iface_laid (t := 165) h m4 (by kernel_rfl) (by kernel_rfl) (ifB_ok (by kernel_rfl))) (by
  obtain ⟨m, hm⟩ := Tryz.laysM146.s1_3 W hsh
  exact cell_heap hm)
/-- Handed.lean's wrap with the list of variables and the shape at once -/
theorem handed_shaped {H : Type} {enc : TypeId × Value → H} {a : Assume} {C : Checked} {os : Os} {f : FuncId} {fn : Func} {s : ChangeSpec} {conds : List PathCond} {apart fresh handsOn again : Bool} {X : World → Array Value → Prop}
  (hX : ∀ (w w' : World) (args : Array Value), w.heap = w'.heap → X w args → X w' args)
  (own : ownKnob C.prog.godebug = none) (started : os.Started) (noInit : C.prog.inits.idxOf? f = none) (hfn : C.prog.funcs[f]? = some fn)
  (witness : ∃ (w : World) (tape : Tape) (i : Input), w.os = os ∧ (w.forCall tape i).Shaped C.prog ∧ i.vars = [] ∧ Input.okWide C.prog (w.forCall tape i) .any w.heap.size f i ∧
   ((s.pre enc C.prog fn conds apart (w.forCall tape i).memory i.args ∧ X (w.forCall tape i).memory i.args) ∧ sizedMet enc C.prog fn (OpenSpec.ofChange s) apart (w.forCall tape i).memory i.args) ∧ a.holds C.prog (lone (Frame.enter C.prog f i.args .normal) [] (w.forCall tape i)))
  (contract : ∀ (W : World) (base : Nat) (args : Array Value) (ds gs : List (DataW H)) (before : List MemPlace),
   (∀ (j : Nat) t v, fn.params[j]? = some t → args[j]? = some v → Value.okWide C.prog W .any base t v) →
   DataW.Whole enc C.prog fn.params.toList s.vars apart W args.toList ds gs before →
   conds.all (PathCond.test C.prog ⟨fn.params.toList, ds, s.plain.varTypes C.prog, gs⟩) = true →
   (DataW.weightsEach C.prog (fn.params.toList ++ s.plain.varTypes C.prog) (ds ++ gs)).all (· ≤ reachBytes) = true → X W args → W.ShapedOpen C.prog →
   Calls C.prog f args W fun e W' => ∃ v, e = .returned v ∧ s.post enc C.prog fn apart fresh handsOn again W args v W') :
  ReturnsInHanded a C os f .any (fun w args => (s.pre enc C.prog fn conds apart w args ∧ X w args) ∧ sizedMet enc C.prog fn (OpenSpec.ofChange s) apart w args) (s.post enc C.prog fn apart fresh handsOn again) := by
 refine returnsInHanded_of_calls own started noInit witness ?_
 intro w tape i _ hsh _ hok hpre hholds
 obtain ⟨_, _, _, fn', hfn', _, _, _, _, hval⟩ := hok
 have e : fn' = fn := Option.some.inj (hfn'.symm.trans hfn)
 subst e
 obtain ⟨⟨⟨ds, gs, before, hw, hc⟩, hx⟩, hz⟩ := hpre
 have hw' := DataW.Whole.of_heap (w' := w.forCall tape i) (by rfl) hw
 refine (contract (w.forCall tape i) w.heap.size i.args ds gs before hval hw' hc (hz.weights hw) (hX _ _ _ (by rfl) hx) hsh).mono fun e W' ⟨v, he, hp⟩ => ?_
 subst he
 exact ChangeSpec.post_blind hp
end Go.Proofs.YtoeblmcibheldaaGreatDoor.V
end
section
namespace Go.Proofs.YtoeblmcibheldaaGreatDoor.V.W
open Go Go.RowKit Go.Proofs.YtoeblmcibheldaaGreatDoor.V
theorem atoi_ok (s : ByteArray) (hmax : s.size ≤ 9223372036854775806) (v : Int) (h : Lib.atoiAll s.data.toList = .ok v) (w : World) : Calls Tryz.prog 141 #[.string s] w fun e w' => e = .returned (.tuple #[.int .i64 v, .nilIface]) ∧ Below w.heap.size w w' :=
 (Tryz.strconv_Atoi_ok s hmax v h w).mono fun e w' ⟨he, hw⟩ => ⟨he, by
  rcases hw with rfl | ⟨t, rfl⟩
  ·exact Below.refl _ _
  ·exact Lib.bytesWorld_below _ _ _⟩
theorem atoi_err (s : ByteArray) (hmax : s.size ≤ 281474976710656) (h : ∀ v, Lib.atoiAll s.data.toList ≠ .ok v) (w : World) (hs : ∃ tp p, w.var? Tryz.prog "strconv.ErrSyntax" = some #[.iface tp p]) (hr : ∃ tp p, w.var? Tryz.prog "strconv.ErrRange" = some #[.iface tp p]) :
  Calls Tryz.prog 141 #[.string s] w fun e w' => ∃ n tp p, e = .returned (.tuple #[.int .i64 n, .iface tp p]) ∧ Below w.heap.size w w' := by
 cases hq : Lib.atoiAll s.data.toList with
 | ok v => exact absurd hq (h v)
 | range =>
  obtain ⟨tp, p, hv⟩ := hr
  exact (Tryz.strconv_Atoi_range_var s hmax hq tp p w hv).mono fun e w' ⟨N, he, _, _, hb⟩ => ⟨_, _, _, he, hb⟩
 | _ =>
  obtain ⟨tp, p, hv⟩ := hs
  exact (Tryz.strconv_Atoi_syntax_var s hmax hq tp p w hv).mono fun e w' ⟨N, he, _, _, hb⟩ => ⟨_, _, _, he, hb⟩
theorem tab_stays {w w' : World} {g : Nat} {nm : String} {k : IntKind} {l : List Int} (hg : Tryz.prog.globalNamed nm = some g) (hb : Below w.heap.size w w') (h : Lib.TabIs Tryz.prog w nm k l) : Lib.TabIs Tryz.prog w' nm k l := var_stays hb hg h
theorem grow_below {w w' : World} (hb : Below w.heap.size w w') (k : Nat) (os : Array Obj) : Below w.heap.size w (Sort.grow (w'.drewN k) os) := hb.trans (Lib.below_grow w.heap.size w' hb.size k os)
theorem neq_true {l : List UInt8} {s : ByteArray} (h : (!l == s.toList) = true) : l ≠ s.data.toList := fun e => by
 rw [ByteArray.toList_eq, e, beq_self_eq_true] at h
 cases h
theorem neq_false {l : List UInt8} {s : ByteArray} (h : (!l == s.toList) = false) : l = s.data.toList := by
 rw [ByteArray.toList_eq] at h
 simpa using h
theorem atoi_range {l : List UInt8} {v : Int} (h : Lib.atoiAll l = .ok v) : -9223372036854775808 ≤ v ∧ v ≤ 9223372036854775807 := by
 cases l with
 | nil => cases h
 | cons c r =>
  simp only [Lib.atoiAll] at h
  cases hu : Lib.parseMag (if c.toNat = 43 ∨ c.toNat = 45 then r else c :: r) with
  | ok u =>
   rw [hu] at h
   have hu := Lib.parseMag_lt hu
   simp only at h
   split at h
   ·cases h
   ·rename_i h1
    split at h
    ·cases h
    ·rename_i h2
     injection h with h
     subst h
     split
     ·rename_i h3
      have : ¬ 9223372036854775808 < u := fun q => h2 ⟨h3, q⟩
      omega
     ·rename_i h3
      have : ¬ 9223372036854775808 ≤ u := fun q => h1 ⟨h3, q⟩
      omega
  | _ => rw [hu] at h; cases h
set_option maxRecDepth 20000 in
theorem parseUint_ok (s : ByteArray) (hmax : s.size ≤ 9223372036854775806) (v : Int) (h0 : -9223372036854775808 ≤ v) (h1 : v ≤ 9223372036854775807) (h : Lib.atoiAll s.data.toList = .ok v) (w : World) (htab : Lib.TabIs Tryz.prog w "internal/strconv.uint64pow10" .u64 Lib.pow10Tab) (q : Int × Bool) (hq : q = pu s.data.toList) :
  Calls Tryz.prog 100 #[.string s] w fun e w' => e = .returned (.tuple #[.int .i64 q.1, .bool q.2]) ∧ Below w.heap.size w w' := by
 have hno : ¬ ((0 ≤ v ∧ v ≤ 1000000000) ∧ Lib.itoa v = s.data.toList) → q = (0, false) := fun hn => by
  rw [hq]
  exact pu_no fun u hu e => by
   rw [← e, atoi_itoa hu] at h
   injection h with h
   exact hn ⟨by omega, by rw [← h]; exact e⟩
 go_enter Tryz.func100, Tryz.ntmps100
 go_wp2_with (first
  | (go_at_call 141; refine (atoi_ok s hmax v h _).mono ?_; rintro e w' ⟨rfl, hb⟩)
  | (go_at_call 32; refine (Tryz.strconv_Itoa v h0 h1 _ (tab_stays (g := 3) (by kernel_rfl) hb htab)).mono ?_; rintro e w'' ⟨rfl, k, os, rfl⟩)
  | go_in)
 ·rename_i a1 a2 a3
  go_ret2
  refine ⟨?_, grow_below hb k os⟩
  have e := hno fun hn => neq_true a3 hn.2
  subst e
  rfl
 ·rename_i a1 a2 a3
  go_ret2
  refine ⟨?_, grow_below hb k os⟩
  have e : q = (v, true) := hq.trans (pu_of a1 a2 (neq_false a3))
  subst e
  rfl
 ·rename_i a1 a2
  go_ret2
  refine ⟨?_, hb⟩
  have e : pu s.data.toList = (0, false) := hq.symm.trans (hno fun hn => by omega)
  rw [e]
  rfl
 ·rename_i a1
  go_ret2
  refine ⟨?_, hb⟩
  have e : pu s.data.toList = (0, false) := hq.symm.trans (hno fun hn => by omega)
  rw [e]
  rfl
set_option maxRecDepth 20000 in
theorem parseUint_err (s : ByteArray) (hmax : s.size ≤ 281474976710656) (h : ∀ v, Lib.atoiAll s.data.toList ≠ .ok v) (w : World) (hs : ∃ tp p, w.var? Tryz.prog "strconv.ErrSyntax" = some #[.iface tp p]) (hr : ∃ tp p, w.var? Tryz.prog "strconv.ErrRange" = some #[.iface tp p]) (q : Int × Bool) (hq : q = pu s.data.toList) :
  Calls Tryz.prog 100 #[.string s] w fun e w' => e = .returned (.tuple #[.int .i64 q.1, .bool q.2]) ∧ Below w.heap.size w w' := by
 have hno : q = (0, false) := by
  rw [hq]
  exact pu_no fun u hu e => by
   have := h u
   rw [← e] at this
   exact this (atoi_itoa hu)
 subst hno
 go_enter Tryz.func100, Tryz.ntmps100
 go_wp2_with (first
  | (go_at_call 141; refine (atoi_err s hmax h _ hs hr).mono ?_; rintro e w' ⟨n, tp, p, rfl, hb⟩)
  | go_in)
 go_ret2
 exact ⟨rfl, hb⟩
theorem gl_syn : (7, fun cs : Array Value => ∃ tp p, cs = #[.iface tp p]) ∈ gls := by first | exact .tail _ (.tail _ (.tail _ (.head _)))
theorem gl_rng : (8, fun cs : Array Value => ∃ tp p, cs = #[.iface tp p]) ∈ gls := by first | exact .tail _ (.tail _ (.tail _ (.tail _ (.head _))))
theorem gl_spc : (1, fun cs => cs = (Lib.asciiSpaceTab.map fun z => Value.int .u8 z).toArray) ∈ gls := .tail _ (.tail _ (.head _))
theorem var_of {w : World} {Z : Nat → Prop} (hz : ZOk Z w) {g : Nat} {nm : String} {φ : Array Value → Prop} (hg : (g, φ) ∈ gls) (hn : Tryz.prog.globalNamed nm = some g) : ∃ cs, w.var? Tryz.prog nm = some cs ∧ φ cs := by
 obtain ⟨z, cs, x, y, e1, e2⟩ := hz.gl _ hg
 refine ⟨cs, ?_, e2⟩
 unfold World.var?
 simp only [hn, Option.bind_some]
 rw [e1]
/-- a contract of the kit's as one over values: two results -/
theorem parseUint_vc (s : ByteArray) (hs : s.size ≤ 2000000) : VC Tryz.prog 100 [.v false .str s] (· = .root (.tup [false, false]) (.pr (.int .i64) .bool) (.pr .fz .fz) (pu s.data.toList)) := by
 refine ⟨⟨_, Tryz.func100, by kernel_rfl, by kernel_rfl⟩, fun Z w vals hz hl ha => ?_⟩
 obtain ⟨v, rfl⟩ : ∃ v, vals = [v] := by
  match vals, hl with
  | [v], _ => exact ⟨v, rfl⟩
 obtain ⟨cs, m1, m2⟩ := (ha 0 _ _ rfl rfl : ARep w Z (.v false .str s) v)
 simp only [Rep] at m2
 subst m2
 obtain rfl : v = .string s := by simpa [mkV] using m1.symm
 have hc : Calls Tryz.prog 100 #[.string s] w fun e w' => e = .returned (.tuple #[.int .i64 (pu s.data.toList).1, .bool (pu s.data.toList).2]) ∧ Below w.heap.size w w' := by
  cases hq : Lib.atoiAll s.data.toList with
  | ok v =>
   obtain ⟨cs, e1, e2⟩ := var_of hz gl_pow (nm := "internal/strconv.uint64pow10") (by kernel_rfl)
   have hr := atoi_range hq
   exact parseUint_ok s (by omega) v hr.1 hr.2 hq w (by rw [Lib.TabIs, e1, e2]) _ rfl
  | _ =>
   obtain ⟨cs, e1, tp, p, rfl⟩ := var_of hz gl_syn (nm := "strconv.ErrSyntax") (by kernel_rfl)
   obtain ⟨cs, f1, tp2, p2, rfl⟩ := var_of hz gl_rng (nm := "strconv.ErrRange") (by kernel_rfl)
   exact parseUint_err s (by omega) (fun v h => by rw [hq] at h; cases h) w ⟨_, _, e1⟩ ⟨_, _, f1⟩ _ rfl
 refine hc.mono fun e w' ⟨he, hb⟩ => ⟨_, _, he, ⟨hb.os, hb.tape, hb.output, hb.size, fun b hb' => hb.block b hb'⟩, rfl, Z, .refl, [.int .i64 (pu s.data.toList).1, .bool (pu s.data.toList).2], none, Free, ⟨rfl, rfl, rfl⟩, fun _ h => h.elim, (fun A hA => by cases hA), ?_⟩
 exact ⟨[_], [_], Free, Free, rfl, fun _ h => h, fun _ h => h, fun _ h => h.elim, rfl, rfl⟩
end Go.Proofs.YtoeblmcibheldaaGreatDoor.V.W
end
section
namespace Go.Proofs.YtoeblmcibheldaaGreatDoor.V.W
open Go
abbrev sSt : Sh := .sl 9 .str
end Go.Proofs.YtoeblmcibheldaaGreatDoor.V.W
end
section
namespace Go.Proofs.YtoeblmcibheldaaGreatDoor.V.W
open Go Go.RowKit Go.Proofs.YtoeblmcibheldaaGreatDoor.V
theorem cell_spot {w : World} {a : Addr} {v : Value} (h : w.cell? a = some v) : a.spot = none := by
 unfold World.cell? at h
 split at h
 ·split at h
  ·cases h
  ·rename_i hs
   cases hp : a.spot with
   | none => rfl
   | some n => rw [hp] at hs; simp at hs
 ·cases h
theorem add_flat {b o k : Nat} : (⟨b, o, none⟩ : Addr).add k = ⟨b, o + k, none⟩ := by
 unfold Addr.add
 split <;> simp_all
/-- a frozen row of texts: where it lies -/
theorem strs_at {w : World} {Z : Nat → Prop} {xs : List ByteArray} {v : Value} (h : Rep w Z sSt .fz xs [v] (fun _ => False)) (hp : 0 < xs.length) : ∃ b o c, v = .slice (some ⟨b, o, none⟩) xs.length c ∧ xs.length ≤ c ∧ xs.length ≤ maxLen ∧ Z b ∧ ∀ j x, xs[j]? = some x → w.cell? ⟨b, o + j, none⟩ = some (.string x) := by
 obtain ⟨A, c, m1, q1, q1', q2⟩ := h
 have m1 : v = .slice A xs.length c := by simpa using m1
 obtain ⟨ad, e1, e2, e3⟩ := q2 hp
 have hat : ∀ i, i < xs.length → w.cell? (ad.add i) = some (.string (xs.getD i ByteArray.empty)) := fun i hi => by
  obtain ⟨c', k1, k2, k3⟩ := e3 i hi
  have k2 := k2 0 (by decide)
  have k3 : c' = [.string (xs.getD i ByteArray.empty)] := k3
  rw [k3] at k2
  simpa [Sh.size] using k2
 have hs : ad.spot = none := by
  exact cell_spot (a := ad) (hat 0 hp)
 obtain ⟨b, o, sp⟩ := ad
 have hs : sp = none := hs
 subst hs
 refine ⟨b, o, c, by rw [m1, e1], q1, q1', e2, fun j x hx => ?_⟩
 obtain ⟨hj, rfl⟩ := List.getElem?_eq_some_iff.1 hx
 have := hat j hj
 rw [add_flat] at this
 rw [this, List.getD_eq_getElem?_getD, List.getElem?_eq_getElem hj]
 rfl
theorem one_arg {w : World} {Z : Nat → Prop} {vals : List Value} {s : Sh} {x : s.ty} {i : Nat} {v : Value} {args : List PV} (ha : ∀ (i : Nat) (pv : PV) (v : Value), args[i]? = some pv → vals[i]? = some v → ARep w Z pv v) (h1 : args[i]? = some (.v false s x)) (h2 : vals[i]? = some v) : Rep w Z s .fz x [v] (fun _ => False) := by
 obtain ⟨cs, m1, m2⟩ := (ha i _ _ h1 h2 : ARep w Z (.v false s x) v)
 have m1 : cs = [v] := by simpa [mkV] using m1
 rw [← m1]
 exact m2
theorem below_ext {w w' : World} (hb : Below w.heap.size w w') : Ext w w' := ⟨hb.os, hb.tape, hb.output, hb.size, fun b hb' => hb.block b hb'⟩
theorem join_vc (xs : List ByteArray) (sep : ByteArray) (hN : xs.length ≤ 140737488355328) (hlen : (Lib.join (xs.map (·.data.toList)) sep.data.toList).length ≤ 140737488355328) : VC Tryz.prog 102 [.v false sSt xs, .v false .str sep] (· = .v false .str (bs (Lib.join (xs.map (·.data.toList)) sep.data.toList))) := by
 refine ⟨⟨_, Tryz.func102, by kernel_rfl, by kernel_rfl⟩, fun Z w vals hz hl ha => ?_⟩
 obtain ⟨v, u, rfl⟩ : ∃ v u, vals = [v, u] := by
  match vals, hl with
  | [v, u], _ => exact ⟨v, u, rfl⟩
 have m1 := one_arg ha (i := 0) rfl rfl
 have m2 := one_arg ha (i := 1) rfl rfl
 have m2 : u = .string sep := by simpa [Rep] using m2
 subst m2
 have hc : Calls Tryz.prog 102 #[v, .string sep] w fun e w' => e = .returned (.string ⟨(Lib.join (xs.map (·.data.toList)) sep.data.toList).toArray⟩) ∧ Below w.heap.size w w' := by
  rcases Nat.eq_zero_or_pos xs.length with h0 | hp
  ·obtain rfl := List.eq_nil_of_length_eq_zero h0
   obtain ⟨A, c, q0, _⟩ := m1
   have q0 : v = .slice A 0 c := by simpa using q0
   subst q0
   exact (Tryz.strings_Join_none A c sep w).mono fun e w' ⟨he, hw⟩ => ⟨he, hw ▸ Below.refl _ _⟩
  ·obtain ⟨b, o, c, rfl, q1, q2, q3, q4⟩ := strs_at m1 hp
   exact Tryz.strings_Join b o c xs sep w q4 (hz.lt b q3) hN q1 hlen
 exact hc.mono fun e w' ⟨he, hb⟩ => ⟨_, _, he, below_ext hb, rfl, FRes.same rfl ⟨_, rfl, rfl⟩⟩
theorem sindex_vc (xs : List ByteArray) (x : ByteArray) (hm : xs.length ≤ 9223372036854775807) : VC Tryz.prog 101 [.v false sSt xs, .v false .str x] (· = .v false (.int .i64) (Lib.idxOfS xs x)) := by
 refine ⟨⟨_, Tryz.func101, by kernel_rfl, by kernel_rfl⟩, fun Z w vals hz hl ha => ?_⟩
 obtain ⟨v, u, rfl⟩ : ∃ v u, vals = [v, u] := by
  match vals, hl with
  | [v, u], _ => exact ⟨v, u, rfl⟩
 have m1 := one_arg ha (i := 0) rfl rfl
 have m2 := one_arg ha (i := 1) rfl rfl
 have m2 : u = .string x := by simpa [Rep] using m2
 subst m2
 have hc : Calls Tryz.prog 101 #[v, .string x] w fun e w' => e = .returned (.int .i64 (Lib.idxOfS xs x)) ∧ w' = w := by
  rcases Nat.eq_zero_or_pos xs.length with h0 | hp
  ·obtain rfl := List.eq_nil_of_length_eq_zero h0
   obtain ⟨A, c, q0, _⟩ := m1
   have q0 : v = .slice A 0 c := by simpa using q0
   subst q0
   exact Tryz.slices_Index_string_empty A c x w
  ·obtain ⟨b, o, c, rfl, q1, q2, q3, q4⟩ := strs_at m1 hp
   have := Tryz.slices_Index_string b o xs.length c xs x w (Nat.le_refl _) hm fun j hj => by
    rw [q4 j _ (List.getElem?_eq_getElem hj), List.getD_eq_getElem?_getD, List.getElem?_eq_getElem hj]
    rfl
   rw [List.take_length] at this
   exact this
 exact hc.mono fun e w' ⟨he, hw⟩ => ⟨_, _, he, by subst hw; exact Ext.refl _, rfl, FRes.same rfl ⟨_, rfl, rfl⟩⟩
theorem fields_vc (s : ByteArray) (hs : s.size ≤ 2000000) (ha : ∀ (j : Nat) b, s.data.toList[j]? = some b → b.toNat < 128) : VC Tryz.prog 99 [.v false .str s] (· = .root (.val false) sSt .own ((Lib.fields s.data.toList).map bs)) := by
 refine ⟨⟨_, Tryz.func99, by kernel_rfl, by kernel_rfl⟩, fun Z w vals hz hl hA => ?_⟩
 obtain ⟨v, rfl⟩ : ∃ v, vals = [v] := by
  match vals, hl with
  | [v], _ => exact ⟨v, rfl⟩
 have m1 := one_arg hA (i := 0) rfl rfl
 have m1 : v = .string s := by simpa [Rep] using m1
 subst m1
 obtain ⟨cs, e1, e2⟩ := var_of hz gl_spc (nm := "strings.asciiSpace") (by kernel_rfl)
 have hfl := fieldsGo_len s.data.toList []
 have hsz : s.data.toList.length = s.size := by rw [Array.length_toList]; rfl
 refine (Tryz.strings_Fields_laid s w (by omega) ha (by rw [Lib.TabIs, e1, e2])).mono fun e w' ⟨he, hw⟩ => ?_
 subst hw
 generalize hF : Lib.fields s.data.toList = F at *
 have hFl : F.length ≤ s.size + 1 := by rw [← hF, ← hsz]; exact hfl
 generalize hC : (F.map fun l => Value.string ⟨l.toArray⟩).toArray = C at *
 have hat : (w.alloc (.cells C 9)).heap[w.heap.size]? = some (.cells C 9 (0, 0)) := Array.getElem?_push_size
 have hsz2 : (w.alloc (.cells C 9)).heap.size = w.heap.size + 1 := Array.size_push ..
 have hCs : C.size = F.length := by rw [← hC]; simp
 refine ⟨_, _, he, Ext.alloc w _, rfl, Z, .refl, [_], none, (· = w.heap.size), ⟨rfl, fun _ => rfl, rfl⟩, fun b hb => ?_, (fun A hA => by cases hA), ?_⟩
 ·subst hb
  exact ⟨⟨Nat.le_refl _, by omega⟩, fun hZ => by have := hz.lt _ hZ; omega⟩
 ·refine .inr ⟨w.heap.size, F.length, C, fun i => [.string ((F.map bs).getD i ByteArray.empty)], fun _ _ => False, by rw [List.length_map], hat, by rw [List.length_map]; exact Nat.le_refl _, by unfold maxLen; omega, by rw [hCs]; exact (Nat.mul_one _).symm, rfl, fun i hi => ?_, fun _ _ _ _ _ _ h => h.elim⟩
  rw [List.length_map] at hi
  refine ⟨rfl, fun j hj => ?_, fun b hb => hb.elim, rfl⟩
  have hj : j < 1 := hj
  obtain rfl : j = 0 := by omega
  rw [show i * Sh.str.size + 0 = i from Nat.mul_one i, ← hC, List.getElem?_toArray, List.getElem?_map, List.getElem?_eq_getElem hi]
  show some (Value.string ⟨F[i].toArray⟩) = some (Value.string ((F.map bs).getD i ByteArray.empty))
  rw [List.getD_eq_getElem?_getD, List.getElem?_map, List.getElem?_eq_getElem hi]
  rfl
end Go.Proofs.YtoeblmcibheldaaGreatDoor.V.W
end
section
namespace Go.Proofs.YtoeblmcibheldaaGreatDoor.V.W
open Go Go.RowKit Go.Proofs.YtoeblmcibheldaaGreatDoor.V
def linesGo : List UInt8 → List UInt8 → List (List UInt8)
 | cur, [] => [cur]
 | cur, b :: r => if b = 10 then cur :: linesGo [] r else linesGo (cur ++ [b]) r
theorem linesGo_cur : ∀ (s cur : List UInt8), ∃ h t, linesGo [] s = h :: t ∧ linesGo cur s = (cur ++ h) :: t
 | [], cur => ⟨[], [], rfl, by simp [linesGo]⟩
 | b :: r, cur => by
  by_cases hb : b = 10
  ·subst hb
   exact ⟨[], linesGo [] r, by simp [linesGo], by simp [linesGo]⟩
  ·obtain ⟨h1, t1, e1, e2⟩ := linesGo_cur r [b]
   obtain ⟨h2, t2, e3, e4⟩ := linesGo_cur r (cur ++ [b])
   rw [e1] at e3
   obtain ⟨rfl, rfl⟩ := List.cons.inj e3
   exact ⟨[b] ++ h1, t1, by rw [linesGo, if_neg hb]; exact e2, by rw [linesGo, if_neg hb, e4, List.append_assoc]⟩
theorem linesGo_len : ∀ (s cur : List UInt8), (linesGo cur s).length ≤ s.length + 1
 | [], cur => Nat.le_refl _
 | b :: r, cur => by
  rw [linesGo]
  split
  ·have := linesGo_len r []
   simp only [List.length_cons]
   omega
  ·have := linesGo_len r (cur ++ [b])
   simp only [List.length_cons]
   omega
theorem linesGo_in : ∀ (s cur : List UInt8), ∀ l ∈ linesGo cur s, l.length ≤ cur.length + s.length
 | [], cur, l, h => by
  rw [linesGo, List.mem_singleton] at h
  rw [h]
  exact Nat.le_add_right _ _
 | b :: r, cur, l, h => by
  rw [linesGo] at h
  split at h
  ·rcases List.mem_cons.1 h with h | h
   ·rw [h]; exact Nat.le_add_right _ _
   ·have := linesGo_in r [] l h
    simp only [List.length_cons, List.length_nil] at this ⊢
    omega
  ·have := linesGo_in r (cur ++ [b]) l h
   simp only [List.length_cons, List.length_append, List.length_nil] at this ⊢
   omega
theorem split_lines : ∀ s : List UInt8, Lib.split s [10] = linesGo [] s
 | [] => rfl
 | b :: r => by
  have ih := split_lines r
  by_cases hb : b = 10
  ·subst hb
   rw [linesGo, if_pos rfl, ← ih, Lib.split, Lib.count_cons_eq, Nat.add_comm, Lib.splitK]
   rfl
  ·have hp : ([10] : List UInt8).isPrefixOf (b :: r) = false := by
    simp [List.isPrefixOf]
    exact fun e => hb e.symm
   obtain ⟨h1, t1, e1, e2⟩ := linesGo_cur r [b]
   rw [linesGo, if_neg hb, List.nil_append, e2]
   rw [e1] at ih
   rw [Lib.split, Lib.count_cons_ne b 10 r hb]
   rw [Lib.split] at ih
   cases hk : Lib.count r [10] with
   | zero =>
    rw [hk] at ih
    rw [Lib.splitK] at ih ⊢
    obtain ⟨rfl, rfl⟩ := List.cons.inj ih
    rfl
   | succ k =>
    rw [hk] at ih
    obtain ⟨i, hi⟩ := Lib.index_of_count (s := r) (old := [10]) (by omega)
    have hi1 : Lib.index (b :: r) [10] = ((i + 1 : Nat) : Int) := by
     rw [Lib.index, if_neg (by rw [hp]; decide), hi, if_neg (by simp <;> omega)]
     omega
    rw [Lib.splitK, hi, if_neg (by simp <;> omega)] at ih
    rw [Lib.splitK, hi1, if_neg (by simp <;> omega)]
    obtain ⟨f1, f2⟩ := List.cons.inj ih
    rw [← f1, ← f2]
    rfl
theorem bs_self (x : ByteArray) : bs x.data.toList = x := by simp [bs]
theorem splitB_lines (s : ByteArray) : Lib.splitB ⟨#[10]⟩ 0 (Lib.countB s ⟨#[10]⟩) s = (linesGo [] s.data.toList).map bs := by
 have h := Lib.splitB_data ⟨#[10]⟩ 0 (Lib.countB s ⟨#[10]⟩) s
 have h2 : Lib.splitK [10] 0 (Lib.count s.data.toList [10]) s.data.toList = linesGo [] s.data.toList := split_lines _
 rw [show (⟨#[10]⟩ : ByteArray).data.toList = [10] from rfl] at h
 rw [← h2, ← show Lib.countB s ⟨#[10]⟩ = Lib.count s.data.toList [10] from rfl, ← h, List.map_map]
 have : (bs ∘ fun x : ByteArray => x.data.toList) = id := funext fun x => bs_self x
 rw [this, List.map_id]
theorem gl_max : (4, fun cs : Array Value => ∃ m, cs[0]? = some (Value.int .i64 m)) ∈ gls := by first | exact .tail _ (.tail _ (.tail _ (.tail _ (.tail _ (.head _)))))
theorem split_vc (s : ByteArray) (hs : s.size ≤ 2000000) : VC Tryz.prog 63 [.v false .str s, .v false .str ⟨#[10]⟩] (· = .root (.val false) sSt .own ((linesGo [] s.data.toList).map bs)) := by
 refine ⟨⟨_, Tryz.func63, by kernel_rfl, by kernel_rfl⟩, fun Z w vals hz hl hA => ?_⟩
 obtain ⟨v, u, rfl⟩ : ∃ v u, vals = [v, u] := by
  match vals, hl with
  | [v, u], _ => exact ⟨v, u, rfl⟩
 have m1 := one_arg hA (i := 0) rfl rfl
 have m2 := one_arg hA (i := 1) rfl rfl
 have m1 : v = .string s := by simpa [Rep] using m1
 have m2 : u = .string ⟨#[10]⟩ := by simpa [Rep] using m2
 subst m1
 subst m2
 obtain ⟨z, cs, x, y, e1, m, e2⟩ := hz.gl _ gl_max
 have hcell : w.cell? ⟨4, 0, none⟩ = some (.int .i64 m) := by
  unfold World.cell?
  simp only [e1]
  exact e2
 have hfl := linesGo_len s.data.toList []
 have hsz : s.data.toList.length = s.size := by rw [Array.length_toList]; rfl
 refine (Tryz.strings_Split s ⟨#[10]⟩ m w (by omega) hcell (by decide)).mono fun e w' ⟨he, hw⟩ => ?_
 subst hw
 have hcnt : Lib.countB s ⟨#[10]⟩ + 1 = (linesGo [] s.data.toList).length := by
  rw [← Lib.splitB_all ⟨#[10]⟩ (by decide) 0 _ s rfl, splitB_lines, List.length_map]
 rw [splitB_lines]
 rw [hcnt] at he
 generalize hF : linesGo [] s.data.toList = F at *
 have hFl : F.length ≤ s.size + 1 := by omega
 generalize hC : ((F.map bs).map Value.string).toArray = C at *
 have hat : (w.alloc (.cells C 9)).heap[w.heap.size]? = some (.cells C 9 (0, 0)) := Array.getElem?_push_size
 have hsz2 : (w.alloc (.cells C 9)).heap.size = w.heap.size + 1 := Array.size_push ..
 have hCs : C.size = F.length := by rw [← hC]; simp
 refine ⟨_, _, he, Ext.alloc w _, rfl, Z, .refl, [_], none, (· = w.heap.size), ⟨rfl, fun _ => rfl, rfl⟩, fun b hb => ?_, (fun A hA => by cases hA), ?_⟩
 ·subst hb
  exact ⟨⟨Nat.le_refl _, by omega⟩, fun hZ => by have := hz.lt _ hZ; omega⟩
 ·refine .inr ⟨w.heap.size, F.length, C, fun i => [.string ((F.map bs).getD i ByteArray.empty)], fun _ _ => False, by rw [List.length_map], hat, by rw [List.length_map]; exact Nat.le_refl _, by unfold maxLen; omega, by rw [hCs]; exact (Nat.mul_one _).symm, rfl, fun i hi => ?_, fun _ _ _ _ _ _ h1 => h1.elim⟩
  rw [List.length_map] at hi
  refine ⟨rfl, fun j hj => ?_, fun b hb => hb.elim, rfl⟩
  have hj : j < 1 := hj
  obtain rfl : j = 0 := by omega
  rw [show i * Sh.str.size + 0 = i from Nat.mul_one i, ← hC, List.getElem?_toArray, List.getElem?_map, List.getElem?_map, List.getElem?_eq_getElem hi]
  show some (Value.string (bs F[i])) = some (Value.string ((F.map bs).getD i ByteArray.empty))
  rw [List.getD_eq_getElem?_getD, List.getElem?_map, List.getElem?_eq_getElem hi]
  rfl
end Go.Proofs.YtoeblmcibheldaaGreatDoor.V.W
end
section
namespace Go.Proofs.YtoeblmcibheldaaGreatDoor.V.W
open Go Go.RowKit
end Go.Proofs.YtoeblmcibheldaaGreatDoor.V.W
end
section
namespace Go.Proofs.YtoeblmcibheldaaGreatDoor.V.W
open Go Go.RowKit Go.Proofs.YtoeblmcibheldaaGreatDoor.V
abbrev rSB (p : List ByteArray × Bool) : PV := .root (.tup [false, false]) (.pr sSt .bool) (.pr .own .fz) p
/-- byte i of a text -/
def byteAt (s : ByteArray) (i : Nat) : UInt8 := s.data.toList.getD i 0
theorem dtl (s : ByteArray) : s.data.toList.length = s.size := by rw [Array.length_toList]; rfl
theorem byte_eq {s : ByteArray} {i : Nat} (h : i < s.size) : (if h : i < s.size then ((s[i]'h).toNat : Int) else 0) = ((byteAt s i).toNat : Int) := by
 rw [dif_pos h, byteAt, List.getD_eq_getElem?_getD, List.getElem?_eq_getElem (by rw [dtl]; exact h)]
 rfl
theorem byte_lt (b : UInt8) : (b.toNat : Int) < 256 := by have := b.toNat_lt; omega
def rangeTo (s : ByteArray) (i : Nat) : Prop := ∀ k, k < i → inR (byteAt s k) = true
theorem range_all {s : ByteArray} (h : rangeTo s s.size) : s.data.toList.all inR = true := by
 rw [List.all_eq_true]
 intro b hb
 obtain ⟨k, hk, rfl⟩ := List.mem_iff_getElem.1 hb
 have := h k (by rw [← dtl]; exact hk)
 rwa [byteAt, List.getD_eq_getElem?_getD, List.getElem?_eq_getElem hk] at this
theorem range_not {s : ByteArray} {i : Nat} (h : i < s.size) (hb : inR (byteAt s i) = false) : s.data.toList.all inR = false := by
 rw [List.all_eq_false]
 refine ⟨_, List.getElem_mem (by rw [dtl]; exact h : i < s.data.toList.length), ?_⟩
 rw [byteAt, List.getD_eq_getElem?_getD, List.getElem?_eq_getElem (by rw [dtl]; exact h)] at hb
 intro hn
 rw [show inR s.data.toList[i] = false from hb] at hn
 cases hn
theorem inR_in (b : UInt8) : inB (b.toNat : Int) 32 126 = inR b := by
 rw [Bool.eq_iff_iff, inB_iff, inR]
 simp
 omega
set_option maxRecDepth 20000 in
set_option maxHeartbeats 1000000 in
theorem splitFields_vc (s : ByteArray) (hs : s.size ≤ 2000000) : VC Tryz.prog 64 [.v false .str s] (· = rSB (splitF s.data.toList)) := by
 refine VC.of_body hT Tryz.func64 rfl (by kernel_rfl) [(.tmp 2, false, sSt), (.tmp 3, false, .bool)] (by kernel_rfl) ?_
 show VW _ _ ([.v false .str s, D, D, D, D, D, D, D, D, D, D, D, D, D, D, D, D, D, D, D, D, D, D, D, D, D, D]) _
 have hno : splitOk s.data.toList = false → splitF s.data.toList = ([], false) := fun h => by rw [splitF, if_neg (by rw [h]; decide)]
 repeat refine VW.seq ?_
 refine VW.regl hT fun K hK => ?_
 simp only [wq, simprocAttr]
 refine hK _ ?_
 clear hK K
 try refine vthen_n ?_
 repeat refine VW.seq ?_
 refine VW.regl hT fun K hK => ?_
 simp only [wq, simprocAttr]
 refine hK _ ?_
 clear hK K
 try refine vthen_n ?_
 repeat refine VW.seq ?_
 refine VW.cond rfl (fun hc => ?_) (fun hc => ?_)
 ·have hc : (s.size : Int) > 600 := of_decide_eq_true hc
  repeat refine VW.seq ?_
  refine VW.regl hT fun K hK => ?_
  simp only [wq, simprocAttr]
  refine hK _ ?_
  clear hK K
  try refine vthen_n ?_
  refine VW.ret ⟨.inl rfl, _, rfl, ?_⟩
  rw [hno (by rw [splitOk, decide_eq_false (by rw [dtl]; omega)]; rfl)]
  rfl
 have h600 : s.size ≤ 600 := by
  have : ¬ (s.size : Int) > 600 := of_decide_eq_false hc
  omega
 refine VW.skip (vthen_n ?_)
 repeat refine VW.seq ?_
 refine VW.regl hT fun K hK => ?_
 simp only [wq, simprocAttr]
 refine hK _ ?_
 clear hK K
 try refine vthen_n ?_
 repeat refine VW.seq ?_
 refine VW.block ?_
 refine VW.loop (α := Nat) [(0, none), (9, none), (10, none), (11, none)] (fun i => [.v false .str s, D, D, D, D, D, D, D, D, .v false .str s, .v false (.int .i64) (s.size), .v false (.int .i64) (i), D, D, D, D, D, D, D, D, D, D, D, D, D, D, D]) (fun i => i ≤ s.size ∧ rangeTo s i) (fun i => s.size - i) ⟨0, ⟨by omega, fun k hk => by omega⟩, ?_⟩ fun i ⟨hi, hr⟩ => ?_
 ·simp only [wn, wq, simprocAttr]
  try rfl
 repeat refine VW.seq ?_
 refine VW.regl hT fun K hK => ?_
 simp only [wq, simprocAttr]
 refine hK _ ?_
 clear hK K
 try refine vthen_n ?_
 repeat refine VW.seq ?_
 refine VW.cond rfl (fun hc => ?_) (fun hc => ?_)
 ·have hlt : i < s.size := by simpa using hc
  refine VW.skip (vthen_n ?_)
  repeat refine VW.seq ?_
  refine VW.block ?_
  repeat refine VW.seq ?_
  refine VW.regl hT fun K hK => ?_
  simp only [wq, simprocAttr]
  refine hK _ ?_
  clear hK K
  try refine vthen_n ?_
  repeat refine VW.seq ?_
  refine VW.regl hT fun K hK => ?_
  simp only [wq, simprocAttr]
  refine ⟨decide_eq_true ⟨Int.natCast_nonneg _, by show (i : Int) < (s.size : Int); omega⟩, ?_⟩
  have hb := byte_lt (byteAt s i)
  have hb0 : 0 ≤ ((byteAt s i).toNat : Int) := Int.natCast_nonneg _
  rw [byte_eq hlt, wrap64 (by omega) (by omega)]
  refine vcall_of (within_vc _ 32 126) ?_
  rw [inR_in]
  simp only [wq, simprocAttr]
  refine hK _ ?_
  clear hK K
  try refine vthen_n ?_
  repeat refine VW.seq ?_
  refine VW.cond rfl (fun hc => ?_) (fun hc => ?_)
  ·have hc : inR (byteAt s i) = false := (Bool.not_eq_true' _).mp hc
   repeat refine VW.seq ?_
   refine VW.regl hT fun K hK => ?_
   simp only [wq, simprocAttr]
   refine hK _ ?_
   clear hK K
   try refine vthen_n ?_
   refine VW.ret ⟨.inl rfl, _, rfl, ?_⟩
   rw [hno (by rw [splitOk, range_not hlt hc]; simp)]
   rfl
  ·have hc : inR (byteAt s i) = true := (Bool.not_eq_false' _).mp hc
   refine VW.skip ?_
   show vthen _ _ _ .normal _
   refine vthen_n ?_
   repeat refine VW.seq ?_
   refine VW.regl hT fun K hK => ?_
   simp only [wq, simprocAttr]
   refine hK _ ?_
   clear hK K
   try refine vthen_n ?_
   refine ⟨i + 1, ⟨hlt, fun k h => ?_⟩, ?_, by show s.size - (i + 1) < s.size - i; omega⟩
   ·rcases Nat.lt_or_ge k i with h1 | h1
    ·exact hr k h1
    ·rw [show k = i by omega]
     exact hc
   simp only [wn, wq, simprocAttr]
   rw [wrap64 (by omega) (by omega)]
   rfl
 ·have hge : s.size ≤ i := by simpa using hc
  obtain rfl : i = s.size := by omega
  have hall := range_all hr
  refine VW.exit ?_
  show vthen _ _ _ .normal _
  refine vthen_n ?_
  repeat refine VW.seq ?_
  refine VW.regl hT fun K hK => ?_
  simp only [wq, simprocAttr]
  refine vcall_of (fields_vc s hs fun j b hb => ?_) ?_
  ·have := List.all_eq_true.1 hall b (List.mem_of_getElem? hb)
   simp [inR] at this
   omega
  simp only [wq, simprocAttr]
  refine hK _ ?_
  clear hK K
  try refine vthen_n ?_
  repeat refine VW.seq ?_
  refine VW.regl hT fun K hK => ?_
  simp only [wq, simprocAttr]
  refine hK _ ?_
  clear hK K
  try refine vthen_n ?_
  have hfl := fieldsGo_len s.data.toList []
  have hfl : (Lib.fields s.data.toList).length ≤ 601 := by
   rw [dtl] at hfl
   exact Nat.le_trans hfl (by omega)
  repeat refine VW.seq ?_
  refine VW.cond rfl (fun hc => ?_) (fun hc => ?_)
  ·have hc : (((Lib.fields s.data.toList).map bs).length : Int) > 24 := of_decide_eq_true hc
   rw [List.length_map] at hc
   repeat refine VW.seq ?_
   refine VW.regl hT fun K hK => ?_
   simp only [wq, simprocAttr]
   refine hK _ ?_
   clear hK K
   try refine vthen_n ?_
   refine VW.ret ⟨.inl rfl, _, rfl, ?_⟩
   rw [hno (by rw [splitOk, decide_eq_false (p := (Lib.fields s.data.toList).length ≤ 24) (by omega)]; simp)]
   rfl
  have hc : ¬ (((Lib.fields s.data.toList).map bs).length : Int) > 24 := of_decide_eq_false hc
  rw [List.length_map] at hc
  refine VW.skip (vthen_n ?_)
  repeat refine VW.seq ?_
  refine VW.regl hT fun K hK => ?_
  simp only [wq, simprocAttr]
  refine hK _ ?_
  clear hK K
  try refine vthen_n ?_
  refine VW.ret ⟨.inl rfl, _, rfl, ?_⟩
  rw [splitF, if_pos (by rw [splitOk, decide_eq_true (by rw [dtl]; omega), hall, decide_eq_true (by omega)]; rfl)]
end Go.Proofs.YtoeblmcibheldaaGreatDoor.V.W
end
section
namespace Go.Proofs.YtoeblmcibheldaaGreatDoor.V.W
open Go Go.RowKit Go.Proofs.YtoeblmcibheldaaGreatDoor.V
theorem bs_toList' (l : List UInt8) : (bs l).toList = l := by rw [ByteArray.toList_eq]; simp [bs]
end Go.Proofs.YtoeblmcibheldaaGreatDoor.V.W
end
section
namespace Go.Proofs.YtoeblmcibheldaaGreatDoor.V
open Go Go.RowKit
section
variable {P : Program} {T : List (Nat × TI)} {st : St} {o : Oper}
/-- an element of an array in a box -/
theorem does_aidx {t e t0 : TypeId} {n g i of : Nat} {y : Operand} {k : IntKind} {sh s1 : Sh} {f : Fl} {x : sh.ty} (ho : o.op = .indexAddr t (.tmp g) y) (hu : P.underlying t = some (.array n e)) (hi0 : (P.info? e).map (·.size) = some 1)
  (hg : st.at g = .root (.box t0) sh f x) (hy : ref st y = .v false (.int k) (i : Int)) (hn : i < n) (hf : fieldAt sh i n = some (of, s1)) (hof : of = i) (hd : nonroot st o.dst = true) : Does P o st (· = setD st o.dst (.adr g (fpath i n))) := by
 refine Does.pure hd rfl fun L a w hr => ?_
 subst hof
 obtain ⟨ti, hi, h1⟩ := Option.map_eq_some_iff.1 hi0
 have hy0 := hr.opnd y
 rw [hy] at hy0
 have hyv := hy0.int
 have hx0 := hr.opnd (.tmp g)
 have href : ref st (.tmp g) = .adr g [] := by simp only [ref, hg]
 rw [href] at hx0
 obtain ⟨s0, cs1, A, q1, q2⟩ := hx0
 have hl : look st g [] = some ⟨sh, f, x⟩ := by
  unfold look
  rw [hg]
  exact get_nil sh f x
 obtain rfl := q1.shape hl
 obtain ⟨k1, ⟨f2, x2, k2⟩, k3, k4, k5⟩ := field_at of n hf f x
 obtain ⟨_, _, B1, _, m4⟩ := hr.place q1 hl
 have hz : ∀ w, (sizeOf e).run P w = .ok 1 w := fun w => by rw [run_size hi, h1]
 refine ⟨.pointer (some (A.add of)), ?_, ⟨s1, (cs1.drop of).take s1.size, A.add of, q1.app hl k1 k2 (k4 w cs1 (some A) m4.len), rfl⟩⟩
 simp [execOp, ho, hyv, q2, Instr.indexAt, Instr.sureAddr, run_underlying hu, asIntOf, hz, hn]
/-- a variable that is an array of texts, as a slice -/
theorem does_gslice {t e : TypeId} {g n : Nat} {words : List ByteArray} (ho : o.op = .slice t (.global g) none none none) (hu : P.underlying t = some (.array n e)) (hi0 : (P.info? e).map (·.size) = some 1) (hg : (g, (· = (words.map Value.string).toArray)) ∈ gls) (hn : words.length = n) (hmax : n ≤ maxLen) (hpos : 0 < n) (hd : nonroot st o.dst = true) : Does P o st (· = setD st o.dst (.v false (.sl e .str) words)) := by
 refine Does.pure hd rfl fun L a w hr => ?_
 obtain ⟨ti, hi, h1⟩ := Option.map_eq_some_iff.1 hi0
 obtain ⟨z, cs', x1, x2, e1, e2⟩ := hr.zlt.gl _ hg
 have e2 : cs' = (words.map Value.string).toArray := e2
 subst e2
 have hz : ∀ w, (sizeOf e).run P w = .ok 1 w := fun w => by rw [run_size hi, h1]
 have hx : a.eval (.global g) = .pointer (some ⟨g, 0, none⟩) := rfl
 refine ⟨.slice (some ⟨g, 0, none⟩) n n, ?_, ⟨[.slice (some ⟨g, 0, none⟩) n n], rfl, ?_⟩⟩
 ·simp [execOp, ho, hx, Instr.sliceAt, Instr.sureAddr, run_underlying hu, Instr.sliceBounds, sliced, hz]
  intro _
  unfold Addr.add
  split <;> simp_all
 ·subst hn
  refine ⟨_, _, rfl, Nat.le_refl _, hmax, fun _ => ⟨⟨g, 0, none⟩, rfl, z, fun i hlt => ⟨[.string (words.getD i ByteArray.empty)], rfl, fun j hj => ?_, rfl⟩⟩⟩
  have hj : j < 1 := hj
  obtain rfl : j = 0 := by omega
  have e1 : w.heap[g]? = some (.cells (words.map Value.string).toArray x1 x2) := e1
  rw [cell_row e1, List.getElem?_toArray, List.getElem?_map, List.getD_eq_getElem?_getD, List.getElem?_eq_getElem (by simp [Sh.size]; exact hlt)]
  simp [Sh.size, hlt]
end
end Go.Proofs.YtoeblmcibheldaaGreatDoor.V
end
section
namespace Go.Proofs.YtoeblmcibheldaaGreatDoor.V
open Go Go.RowKit
section
variable {P : Program} {st : St} {Q : Exit → St → Prop}
theorem FRes.fz {w w' : World} {Z : Nat → Prop} {k : RK} {s : Sh} {f : Fl} {x : s.ty} {v : Value} (hs : Fl.sound s f = true) (hk : ∀ t, k ≠ .box t) (hk2 : ∀ t b, k ≠ .ibox t b) (h : FRes w w' Z (.root k s f x) v) : FRes w w' Z (.root k s .fz x) v := by
 obtain ⟨Z', hz, cs, ad, B, g1, g2, g3, g4⟩ := h
 have had : ad = none := by
  cases k with
  | val agg => exact g1.2.2
  | tup l => exact g1.2.2
  | box t => exact absurd rfl (hk t)
  | ibox t b => exact absurd rfl (hk2 t b)
 subst had
 refine ⟨fun b => Z' b ∨ B b, ⟨fun b hb => .inl (hz.up b hb), fun b hb => hb.elim (hz.nw b) fun q => .inr ⟨.inr (g2 b q).1.1, (g2 b q).1.2⟩⟩, cs, none, fun _ => False, g1, fun b hb => hb.elim, (fun A hA => by cases hA), g4.freeze (fun b hb => .inl hb) hs fun b hb => .inr hb⟩
theorem VC.fzt {f : FuncId} {args : List PV} {l : List Bool} {s : Sh} {fl : Fl} {x : s.ty} (h : VC P f args (· = .root (.tup l) s fl x)) (hs : Fl.sound s fl = true) : VC P f args (· = .root (.tup l) s .fz x) :=
 ⟨h.fn, fun Z w vals h1 h2 h3 => (h.run Z w vals h1 h2 h3).mono fun e w' ⟨v, pv, q1, q2, q3, q4⟩ => by subst q3; exact ⟨v, _, q1, q2, rfl, q4.fz hs (fun t e => by cases e) (fun t b e => by cases e)⟩⟩
end
end Go.Proofs.YtoeblmcibheldaaGreatDoor.V
end
section
namespace Go.Proofs.YtoeblmcibheldaaGreatDoor.V.W
open Go Go.RowKit
def bad1 (t : List Nd) (i : Nat) (n : Nd) : Bool := !inB n.1 0 i || (!((t.getD n.1.toNat z).2.2 == 0) || (!inB n.2.1 0 3 || !inB n.2.2 0 4))
def bad (t : List Nd) (i : Nat) : Bool := bad1 t i (t.getD (i + 1) z) || (t.take (i + 1)).any (same (t.getD (i + 1) z))
def treeOk (t : List Nd) : Bool := inB t.length 1 12 && ((t.getD 0 z == (-1, 0, 0)) && (List.range (t.length - 1)).all fun i => !bad t i)
theorem treeOk_false {t : List Nd} {i : Nat} (hi : i + 1 < t.length) (h : bad t i = true) : treeOk t = false := by
 have : ((List.range (t.length - 1)).all fun i => !bad t i) = false := by
  rw [List.all_eq_false]
  exact ⟨i, List.mem_range.2 (by omega), by simp [h]⟩
 simp only [treeOk, this, Bool.and_false]
theorem treeOk_true {t : List Nd} (h1 : inB t.length 1 12 = true) (h2 : (t.getD 0 z == (-1, 0, 0)) = true) (h : ∀ i, i + 1 < t.length → bad t i = false) : treeOk t = true := by
 have : ((List.range (t.length - 1)).all fun i => !bad t i) = true := by
  rw [List.all_eq_true]
  intro i hi
  rw [h i (by have := List.mem_range.1 hi; omega)]; rfl
 simp only [treeOk, h1, h2, this, Bool.and_self]
theorem getD_tail (t : List Nd) (i : Nat) : (List.drop 1 (List.take t.length t)).getD i z = t.getD (i + 1) z := by
 rw [List.take_length, List.getD_eq_getElem?_getD, List.getD_eq_getElem?_getD, List.getElem?_drop, Nat.add_comm 1 i]
theorem eqN (x y : Nd) : eqv sN x y = (x == y) := by
 obtain ⟨a, b, c⟩ := x
 obtain ⟨a', b', c'⟩ := y
 simp only [eqv]
 rw [Bool.eq_iff_iff]
 simp
set_option maxRecDepth 20000 in
theorem treeOk_vc (t : List Nd) (hl : t.length ≤ 2000000) : VC Tryz.prog 81 [.v false sNS t] (· = .v false .bool (treeOk t)) := by
 refine VC.of_body hT Tryz.func81 rfl (by kernel_rfl) [(.tmp 2, false, .bool)] (by kernel_rfl) ?_
 show VW _ _ ([.v false sNS t, D, D, D, D, D, D, D, D, D, D, D, D, D, D, D, D, D, D, D, D, D, D, D, D, D, D, D, D, D, D, D, D, D, D, D, D, D, D, D, D, D, D, D, D, D, D, D, D, D, D, D, D, D, D, D, D, D, D]) _
 repeat refine VW.seq ?_
 refine VW.regl hT fun K hK => ?_
 simp only [wq, Nat.reduceMul, reduceCtorEq, Nat.reduceBEq, Nat.reduceAdd, Nat.reduceLT, Nat.reduceLeDiff, Nat.reduceSub, Nat.reduceEqDiff]
 refine hK _ ?_
 clear hK K
 try refine vthen_n ?_
 repeat refine VW.seq ?_
 refine VW.regl hT fun K hK => ?_
 simp only [wq, Nat.reduceMul, reduceCtorEq, Nat.reduceBEq, Nat.reduceAdd, Nat.reduceLT, Nat.reduceLeDiff, Nat.reduceSub, Nat.reduceEqDiff]
 refine vcall_of (within_vc _ _ _) ?_
 simp only [wq, Nat.reduceMul, reduceCtorEq, Nat.reduceBEq, Nat.reduceAdd, Nat.reduceLT, Nat.reduceLeDiff, Nat.reduceSub, Nat.reduceEqDiff]
 refine vbr (fun h1 => ?_) (fun h1 => ?_) <;> simp only [wq, Nat.reduceMul, reduceCtorEq, Nat.reduceBEq, Nat.reduceAdd, Nat.reduceLT, Nat.reduceLeDiff, Nat.reduceSub, Nat.reduceEqDiff]
 case refine_2 =>
  refine hK _ ?_
  clear hK K
  try refine vthen_n ?_
  repeat refine VW.seq ?_
  refine VW.cond rfl (fun hc => ?_) (fun hc => ?_)
  ·repeat refine VW.seq ?_
   refine VW.regl hT fun K hK => ?_
   simp only [wq, Nat.reduceMul, reduceCtorEq, Nat.reduceBEq, Nat.reduceAdd, Nat.reduceLT, Nat.reduceLeDiff, Nat.reduceSub, Nat.reduceEqDiff]
   refine hK _ ?_
   clear hK K
   try refine vthen_n ?_
   refine VW.ret ⟨.inl rfl, _, rfl, ?_⟩
   have h1 : inB t.length 1 12 = false := by simpa using h1
   simp only [treeOk, h1, Bool.false_and]
  ·cases hc
 have h1 : inB t.length 1 12 = true := by simpa using h1
 have hlen := inB_iff.1 h1
 refine ⟨by simp; omega, ?_⟩
 refine hK _ ?_
 clear hK K
 try refine vthen_n ?_
 repeat refine VW.seq ?_
 refine VW.cond rfl (fun hc => ?_) (fun hc => ?_)
 ·repeat refine VW.seq ?_
  refine VW.regl hT fun K hK => ?_
  simp only [wq, Nat.reduceMul, reduceCtorEq, Nat.reduceBEq, Nat.reduceAdd, Nat.reduceLT, Nat.reduceLeDiff, Nat.reduceSub, Nat.reduceEqDiff]
  refine hK _ ?_
  clear hK K
  try refine vthen_n ?_
  refine VW.ret ⟨.inl rfl, _, rfl, ?_⟩
  have hc' : (!eqv sN (t.getD 0 z) (-1, 0, 0)) = true := hc
  rw [eqN] at hc'
  have : (t.getD 0 z == (-1, 0, 0)) = false := by simpa using hc'
  have e : treeOk t = false := by simp only [treeOk, this, Bool.false_and, Bool.and_false]
  rw [e]
 have h2 : (t.getD 0 z == (-1, 0, 0)) = true := by
  have hc' : (!eqv sN (t.getD 0 z) (-1, 0, 0)) = false := hc
  rw [eqN] at hc'
  simpa using hc'
 refine VW.skip (vthen_n ?_)
 repeat refine VW.seq ?_
 refine VW.regl hT fun K hK => ?_
 simp only [wq, Nat.reduceMul, reduceCtorEq, Nat.reduceBEq, Nat.reduceAdd, Nat.reduceLT, Nat.reduceLeDiff, Nat.reduceSub, Nat.reduceEqDiff]
 refine ⟨by simp; omega, ?_⟩
 refine hK _ ?_
 clear hK K
 try refine vthen_n ?_
 repeat refine VW.seq ?_
 refine VW.block ?_
 have htl : (List.drop 1 (List.take t.length t)).length = t.length - 1 := by simp
 refine VW.loop (α := Nat) [(0, none), (18, none), (19, none), (20, none)] (fun i => [.v false sNS t, D, D, D, D, D, D, D, D, D, D, D, D, D, D, D, D, D, .v false sNS (List.drop 1 (List.take t.length t)), .v false (.int .i64) ((List.drop 1 (List.take t.length t)).length), .v false (.int .i64) (i), D, D, D, D, D, D, D, D, D, D, D, D, D, D, D, D, D, D, D, D, D, D, D, D, D, D, D, D, D, D, D, D, D, D, D, D, D, D]) (fun i => i + 1 ≤ t.length ∧ ∀ k, k < i → bad t k = false) (fun i => t.length - i) ⟨0, ⟨by omega, fun k hk => by omega⟩, ?_⟩ fun i ⟨hi, hk⟩ => ?_
 ·simp only [wn, wq, Nat.reduceMul, reduceCtorEq, Nat.reduceBEq, Nat.reduceAdd, Nat.reduceLT, Nat.reduceLeDiff, Nat.reduceSub, Nat.reduceEqDiff]
  try rfl
 repeat refine VW.seq ?_
 refine VW.regl hT fun K hK => ?_
 simp only [wq, Nat.reduceMul, reduceCtorEq, Nat.reduceBEq, Nat.reduceAdd, Nat.reduceLT, Nat.reduceLeDiff, Nat.reduceSub, Nat.reduceEqDiff]
 refine hK _ ?_
 clear hK K
 try refine vthen_n ?_
 repeat refine VW.seq ?_
 refine VW.cond rfl (fun hc => ?_) (fun hc => ?_)
 ·have hlt : i + 1 < t.length := by
   have : (i : Int) < ((t.length - 1 : Nat) : Int) := by rw [← htl]; simpa using hc
   omega
  refine VW.skip (vthen_n ?_)
  repeat refine VW.seq ?_
  refine VW.block ?_
  repeat refine VW.seq ?_
  refine VW.regl hT fun K hK => ?_
  simp only [wq, Nat.reduceMul, reduceCtorEq, Nat.reduceBEq, Nat.reduceAdd, Nat.reduceLT, Nat.reduceLeDiff, Nat.reduceSub, Nat.reduceEqDiff]
  refine ⟨decide_eq_true ⟨Int.natCast_nonneg i, ?_⟩, ?_⟩
  ·have : (i : Int) < ((t.length - 1 : Nat) : Int) := by omega
   rw [← htl] at this
   exact this
  refine hK _ ?_
  clear hK K
  try refine vthen_n ?_
  repeat refine VW.seq ?_
  refine VW.regl hT fun K hK => ?_
  simp only [wq, Nat.reduceMul, reduceCtorEq, Nat.reduceBEq, Nat.reduceAdd, Nat.reduceLT, Nat.reduceLeDiff, Nat.reduceSub, Nat.reduceEqDiff]
  rw [wrap64 (by omega) (by omega)]
  refine ⟨decide_eq_true ⟨Int.le_refl _, by omega, by show ((i : Int) + 1) ≤ (t.length : Int); omega⟩, ?_⟩
  refine hK _ ?_
  clear hK K
  try refine vthen_n ?_
  have hT1 : List.drop (Int.toNat 0) (List.take (Int.toNat ((i : Int) + 1)) t) = t.take (i + 1) := by
   rw [show Int.toNat ((i : Int) + 1) = i + 1 by omega]; rfl
  have hTl : (t.take (i + 1)).length = i + 1 := by rw [List.length_take]; omega
  generalize hn : (t.getD (i + 1) z : Nd) = n
  have hn' : (List.drop 1 (List.take t.length t)).getD i (0, 0, 0) = n := (getD_tail t i).trans hn
  rw [hT1, hn']
  have ex : ∀ b : Bool, bad1 t i n = b → bad t i = (b || (t.take (i + 1)).any (same n)) := by
   intro b hb; unfold bad; rw [hn, hb]
  repeat refine VW.seq ?_
  refine VW.regl hT fun K hK => ?_
  simp only [wq, Nat.reduceMul, reduceCtorEq, Nat.reduceBEq, Nat.reduceAdd, Nat.reduceLT, Nat.reduceLeDiff, Nat.reduceSub, Nat.reduceEqDiff]
  refine vcall_of (within_vc _ _ _) ?_
  simp only [wq, Nat.reduceMul, reduceCtorEq, Nat.reduceBEq, Nat.reduceAdd, Nat.reduceLT, Nat.reduceLeDiff, Nat.reduceSub, Nat.reduceEqDiff]
  refine vbr (fun g1 => ?_) (fun g1 => ?_) <;> simp only [wq, Nat.reduceMul, reduceCtorEq, Nat.reduceBEq, Nat.reduceAdd, Nat.reduceLT, Nat.reduceLeDiff, Nat.reduceSub, Nat.reduceEqDiff]
  ·have g1' : inB n.1 0 i = true := by simpa using g1
   have gi := inB_iff.1 g1'
   have hg : (t.take (i + 1)).getD n.1.toNat z = t.getD n.1.toNat z := by
    rw [List.getD_eq_getElem?_getD, List.getD_eq_getElem?_getD, List.getElem?_take_of_lt (by omega)]
   refine ⟨decide_eq_true ⟨gi.1, by show n.1 < ((t.take (i + 1)).length : Int); omega⟩, ?_⟩
   refine vbr (fun g2 => ?_) (fun g2 => ?_) <;> simp only [wq, Nat.reduceMul, reduceCtorEq, Nat.reduceBEq, Nat.reduceAdd, Nat.reduceLT, Nat.reduceLeDiff, Nat.reduceSub, Nat.reduceEqDiff]
   ·refine vcall_of (within_vc _ _ _) ?_
    simp only [wq, Nat.reduceMul, reduceCtorEq, Nat.reduceBEq, Nat.reduceAdd, Nat.reduceLT, Nat.reduceLeDiff, Nat.reduceSub, Nat.reduceEqDiff]
    refine vbr (fun g3 => ?_) (fun g3 => ?_) <;> simp only [wq, Nat.reduceMul, reduceCtorEq, Nat.reduceBEq, Nat.reduceAdd, Nat.reduceLT, Nat.reduceLeDiff, Nat.reduceSub, Nat.reduceEqDiff]
    ·refine vcall_of (within_vc _ _ _) ?_
     simp only [wq, Nat.reduceMul, reduceCtorEq, Nat.reduceBEq, Nat.reduceAdd, Nat.reduceLT, Nat.reduceLeDiff, Nat.reduceSub, Nat.reduceEqDiff]
     refine hK _ ?_
     clear hK K
     try refine vthen_n ?_
     have b123 : bad1 t i n = !inB n.2.2 0 4 := by
      have g2' : ((t.getD n.1.toNat z).2.2 == 0) = true := by
       rw [← hg]; simpa using g2
      have g3' : inB n.2.1 0 3 = true := by simpa using g3
      simp only [bad1, g1', g2', g3', Bool.not_true, Bool.false_or]
     repeat refine VW.seq ?_
     refine VW.cond rfl (fun hc => ?_) (fun hc => ?_)
     ·repeat refine VW.seq ?_
      refine VW.regl hT fun K hK => ?_
      simp only [wq, Nat.reduceMul, reduceCtorEq, Nat.reduceBEq, Nat.reduceAdd, Nat.reduceLT, Nat.reduceLeDiff, Nat.reduceSub, Nat.reduceEqDiff]
      refine hK _ ?_
      clear hK K
      try refine vthen_n ?_
      refine VW.ret ⟨.inl rfl, _, rfl, ?_⟩
      rw [treeOk_false hlt ((ex true (b123.trans hc)).trans rfl)]
     ·refine VW.skip ?_
      show vthen _ _ _ .normal _
      refine vthen_n ?_
      repeat refine VW.seq ?_
      refine VW.regl hT fun K hK => ?_
      simp only [wq, Nat.reduceMul, reduceCtorEq, Nat.reduceBEq, Nat.reduceAdd, Nat.reduceLT, Nat.reduceLeDiff, Nat.reduceSub, Nat.reduceEqDiff]
      refine vcall_of (contains_vc _ 130 [.fadr sN n] (same n) rfl (fun x => treeOk1_vc x n) (by rw [hTl]; omega)) ?_
      simp only [wq, Nat.reduceMul, reduceCtorEq, Nat.reduceBEq, Nat.reduceAdd, Nat.reduceLT, Nat.reduceLeDiff, Nat.reduceSub, Nat.reduceEqDiff]
      refine hK _ ?_
      clear hK K
      try refine vthen_n ?_
      repeat refine VW.seq ?_
      refine VW.cond rfl (fun hc => ?_) (fun hc => ?_)
      ·repeat refine VW.seq ?_
       refine VW.regl hT fun K hK => ?_
       simp only [wq, Nat.reduceMul, reduceCtorEq, Nat.reduceBEq, Nat.reduceAdd, Nat.reduceLT, Nat.reduceLeDiff, Nat.reduceSub, Nat.reduceEqDiff]
       refine hK _ ?_
       clear hK K
       try refine vthen_n ?_
       refine VW.ret ⟨.inl rfl, _, rfl, ?_⟩
       rw [treeOk_false hlt ((ex false (b123.trans (by assumption))).trans hc)]
      ·refine VW.skip ?_
       show vthen _ _ _ .normal _
       refine vthen_n ?_
       repeat refine VW.seq ?_
       refine VW.regl hT fun K hK => ?_
       simp only [wq, Nat.reduceMul, reduceCtorEq, Nat.reduceBEq, Nat.reduceAdd, Nat.reduceLT, Nat.reduceLeDiff, Nat.reduceSub, Nat.reduceEqDiff]
       refine hK _ ?_
       clear hK K
       try refine vthen_n ?_
       refine ⟨i + 1, ⟨by omega, fun k h => ?_⟩, ?_, by show t.length - (i + 1) < t.length - i; omega⟩
       ·rcases Nat.lt_or_ge k i with h1 | h1
        ·exact hk k h1
        ·obtain rfl : k = i := by omega
         exact (ex false (b123.trans (by assumption))).trans hc
       ·simp only [wn, wq, Nat.reduceMul, reduceCtorEq, Nat.reduceBEq, Nat.reduceAdd, Nat.reduceLT, Nat.reduceLeDiff, Nat.reduceSub, Nat.reduceEqDiff]
        rw [wrap64 (by omega) (by omega)]
        try rfl
    ·refine hK _ ?_
     clear hK K
     try refine vthen_n ?_
     repeat refine VW.seq ?_
     refine VW.cond rfl (fun hc => ?_) (fun hc => ?_)
     ·repeat refine VW.seq ?_
      refine VW.regl hT fun K hK => ?_
      simp only [wq, Nat.reduceMul, reduceCtorEq, Nat.reduceBEq, Nat.reduceAdd, Nat.reduceLT, Nat.reduceLeDiff, Nat.reduceSub, Nat.reduceEqDiff]
      refine hK _ ?_
      clear hK K
      try refine vthen_n ?_
      refine VW.ret ⟨.inl rfl, _, rfl, ?_⟩
      have g3' : inB n.2.1 0 3 = false := by simpa using g3
      rw [treeOk_false hlt ((ex true (by simp only [bad1, g3', Bool.not_false, Bool.true_or, Bool.or_true])).trans rfl)]
     ·cases hc
   ·refine hK _ ?_
    clear hK K
    try refine vthen_n ?_
    repeat refine VW.seq ?_
    refine VW.cond rfl (fun hc => ?_) (fun hc => ?_)
    ·repeat refine VW.seq ?_
     refine VW.regl hT fun K hK => ?_
     simp only [wq, Nat.reduceMul, reduceCtorEq, Nat.reduceBEq, Nat.reduceAdd, Nat.reduceLT, Nat.reduceLeDiff, Nat.reduceSub, Nat.reduceEqDiff]
     refine hK _ ?_
     clear hK K
     try refine vthen_n ?_
     refine VW.ret ⟨.inl rfl, _, rfl, ?_⟩
     have g2' : ((t.getD n.1.toNat z).2.2 == 0) = false := by
      rw [← hg]; simpa using g2
     rw [treeOk_false hlt ((ex true (by simp only [bad1, g2', Bool.not_false, Bool.true_or, Bool.or_true])).trans rfl)]
    ·cases hc
  ·refine hK _ ?_
   clear hK K
   try refine vthen_n ?_
   repeat refine VW.seq ?_
   refine VW.cond rfl (fun hc => ?_) (fun hc => ?_)
   ·repeat refine VW.seq ?_
    refine VW.regl hT fun K hK => ?_
    simp only [wq, Nat.reduceMul, reduceCtorEq, Nat.reduceBEq, Nat.reduceAdd, Nat.reduceLT, Nat.reduceLeDiff, Nat.reduceSub, Nat.reduceEqDiff]
    refine hK _ ?_
    clear hK K
    try refine vthen_n ?_
    refine VW.ret ⟨.inl rfl, _, rfl, ?_⟩
    have g1' : inB n.1 0 i = false := by simpa using g1
    rw [treeOk_false hlt ((ex true (by simp only [bad1, g1', Bool.not_false, Bool.true_or])).trans rfl)]
   ·cases hc
 ·have hge : t.length ≤ i + 1 := by
   have : ((t.length - 1 : Nat) : Int) ≤ (i : Int) := by rw [← htl]; simpa using hc
   omega
  refine VW.exit ?_
  show vthen _ _ _ .normal _
  refine vthen_n ?_
  repeat refine VW.seq ?_
  refine VW.regl hT fun K hK => ?_
  simp only [wq, Nat.reduceMul, reduceCtorEq, Nat.reduceBEq, Nat.reduceAdd, Nat.reduceLT, Nat.reduceLeDiff, Nat.reduceSub, Nat.reduceEqDiff]
  refine hK _ ?_
  clear hK K
  try refine vthen_n ?_
  refine VW.ret ⟨.inl rfl, _, rfl, ?_⟩
  rw [treeOk_true h1 h2 fun k hk' => hk k (by omega)]
theorem isNode_vc (t : List Nd) (k : Int) (hl : t.length ≤ 2000000) : VC Tryz.prog 131 [.v false sNS t, .v false (.int .i64) (k)] (· = .v false .bool (treeOk t && inB k 0 (t.length - 1))) := by
 refine VC.of_body hT Tryz.func131 rfl (by kernel_rfl) [(.tmp 4, false, .bool)] (by kernel_rfl) ?_
 show VW _ _ ([.v false sNS t, .v false (.int .i64) (k), D, D, D, D, D, D, D, D, D, D, D, D]) _
 repeat refine VW.seq ?_
 refine VW.regl hT fun K hK => ?_
 simp only [wq, simprocAttr]
 refine hK _ ?_
 clear hK K
 try refine vthen_n ?_
 repeat refine VW.seq ?_
 refine VW.regl hT fun K hK => ?_
 simp only [wq, simprocAttr]
 refine vcall_of (treeOk_vc t hl) ?_
 simp only [wq, simprocAttr]
 refine vbr (fun h => ?_) (fun h => ?_) <;> simp only [wq, simprocAttr]
 ·rw [wrap64 (by omega) (by omega)]
  refine vcall_of (within_vc _ _ _) ?_
  simp only [wq, simprocAttr]
  refine hK _ ?_
  clear hK K
  try refine vthen_n ?_
  refine VW.ret ⟨.inl rfl, _, rfl, ?_⟩
  rw [h, Bool.true_and]
 ·refine hK _ ?_
  clear hK K
  try refine vthen_n ?_
  refine VW.ret ⟨.inl rfl, _, rfl, ?_⟩
  have h : treeOk t = false := h
  rw [h, Bool.false_and]
theorem clone_vc (t : List Nd) (hl : t.length ≤ 2000000) : VC Tryz.prog 103 [.v false sNS t] (· = .root (.val false) sNS .own t) := by
 refine VC.of_body hT Tryz.func103 rfl (by kernel_rfl) [(.tmp 2, false, sNS)] (by kernel_rfl) ?_
 show VW _ _ ([.v false sNS t, D, D, D, D, D, D, D]) _
 repeat refine VW.seq ?_
 refine VW.regl hT fun K hK => ?_
 simp only [wq, simprocAttr]
 refine hK _ ?_
 clear hK K
 try refine vthen_n ?_
 repeat refine VW.seq ?_
 refine VW.regl hT fun K hK => ?_
 simp only [wq, simprocAttr]
 intro b hb
 refine hK _ ?_
 clear hK K
 try refine vthen_n ?_
 repeat refine VW.seq ?_
 refine VW.cond rfl (fun hc => ?_) (fun hc => ?_)
 ·repeat refine VW.seq ?_
  refine VW.regl hT fun K hK => ?_
  simp only [wq, simprocAttr]
  refine hK _ ?_
  clear hK K
  try refine vthen_n ?_
  refine VW.ret ⟨.inl rfl, _, rfl, ?_⟩
  have : t = [] := by
   rcases Nat.eq_zero_or_pos t.length with h | h
   ·exact List.eq_nil_of_length_eq_zero h
   ·have := hb h; rw [this] at hc; cases hc
  subst this; rfl
 ·refine VW.skip (vthen_n ?_)
  repeat refine VW.seq ?_
  refine VW.regl hT fun K hK => ?_
  simp only [wq, simprocAttr]
  refine ⟨by simp [limOk]; omega, ?_⟩
  refine hK _ ?_
  clear hK K
  try refine vthen_n ?_
  exact VW.ret ⟨.inl rfl, _, rfl, rfl⟩
end Go.Proofs.YtoeblmcibheldaaGreatDoor.V.W
end
section
namespace Go.Proofs.YtoeblmcibheldaaGreatDoor.V.W
open Go Go.RowKit
theorem treeOk_len {t : List Nd} (h : treeOk t = true) : 1 ≤ t.length ∧ t.length ≤ 12 := by
 simp only [treeOk, Bool.and_eq_true] at h
 have := inB_iff.1 h.1
 omega
theorem tree_parts {t : List Nd} (h : treeOk t = true) : inB t.length 1 12 = true ∧ t.getD 0 z = (-1, 0, 0) ∧ ∀ i, i + 1 < t.length → bad t i = false := by
 simp only [treeOk, Bool.and_eq_true] at h
 refine ⟨h.1, by simpa using h.2.1, fun i hi => ?_⟩
 have := List.all_eq_true.1 h.2.2 i (List.mem_range.2 (by omega))
 simpa using this
theorem any_same {t : List Nd} {j : Nat} {n : Nd} (hj : j ≤ t.length) (h : (t.take j).any (same n) = false) {m : Nat} (hm : m < j) : ¬ ((t.getD m z).1 = n.1 ∧ (t.getD m z).2.1 = n.2.1) := by
 intro ⟨h1, h2⟩
 rw [List.any_eq_false] at h
 have hml : m < t.length := by omega
 have : t.getD m z ∈ t.take j := by
  rw [List.getD_eq_getElem?_getD, List.getElem?_eq_getElem hml]
  have : (t.take j)[m]? = some t[m] := by rw [List.getElem?_take_of_lt hm, List.getElem?_eq_getElem hml]
  exact List.mem_of_getElem? this
 refine h _ this ?_
 simp only [same, h1, h2, beq_self_eq_true, Bool.and_self]
theorem tree_node {t : List Nd} (h : treeOk t = true) {j : Nat} (h1 : 1 ≤ j) (h2 : j < t.length) : 0 ≤ (t.getD j z).1 ∧ (t.getD j z).1 < j ∧ (t.getD (t.getD j z).1.toNat z).2.2 = 0 ∧ 0 ≤ (t.getD j z).2.1 ∧ (t.getD j z).2.1 ≤ 3 ∧ ∀ m, m < j → ¬ ((t.getD m z).1 = (t.getD j z).1 ∧ (t.getD m z).2.1 = (t.getD j z).2.1) := by
 obtain ⟨i, rfl⟩ : ∃ i, j = i + 1 := ⟨j - 1, by omega⟩
 have hb := (tree_parts h).2.2 i h2
 simp only [bad, bad1, Bool.or_eq_false_iff, Bool.not_eq_false'] at hb
 obtain ⟨⟨q1, q2, q3, q4⟩, q5⟩ := hb
 have q1 := inB_iff.1 q1
 have q3 := inB_iff.1 q3
 exact ⟨q1.1, by omega, by simpa using q2, q3.1, q3.2, fun m hm => any_same (by omega) q5 hm⟩
theorem par {t : List Nd} (h : treeOk t = true) {j : Nat} (h1 : 1 ≤ j) (h2 : j < t.length) : ∃ p : Nat, (t.getD j z).1 = (p : Int) ∧ p < j := by
 have := tree_node h h1 h2
 exact ⟨(t.getD j z).1.toNat, by omega, by omega⟩
end Go.Proofs.YtoeblmcibheldaaGreatDoor.V.W
end
section
namespace Go.Proofs.YtoeblmcibheldaaGreatDoor.V.W
open Go Go.RowKit
theorem isNaN_vc (x : Int) : VC Tryz.prog 218 [.v false (.int .i64) (x)] (· = .v false .bool (false)) := by
 refine VC.of_body hT Tryz.func218 rfl (by kernel_rfl) [(.tmp 2, false, .bool)] (by kernel_rfl) ?_
 show VW _ _ ([.v false (.int .i64) (x), D, D, D, D, D]) _
 repeat refine VW.seq ?_
 refine VW.regl hT fun K hK => ?_
 simp only [wq, simprocAttr]
 refine hK _ ?_
 clear hK K
 try refine vthen_n ?_
 repeat refine VW.seq ?_
 refine VW.regl hT fun K hK => ?_
 simp only [wq, simprocAttr]
 refine hK _ ?_
 clear hK K
 try refine vthen_n ?_
 refine VW.ret ⟨.inl rfl, _, rfl, ?_⟩
 simp
def cmpI (a b : Int) : Int := if a < b then -1 else if a > b then 1 else 0
theorem compare_vc (a b : Int) : VC Tryz.prog 187 [.v false (.int .i64) (a), .v false (.int .i64) (b)] (· = .v false (.int .i64) (cmpI a b)) := by
 refine VC.of_body hT Tryz.func187 rfl (by kernel_rfl) [(.tmp 4, false, .int .i64)] (by kernel_rfl) ?_
 show VW _ _ ([.v false (.int .i64) (a), .v false (.int .i64) (b), D, D, D, D, D, D, D, D, D, D, D, D, D, D, D, D, D, D]) _
 repeat refine VW.seq ?_
 refine VW.regl hT fun K hK => ?_
 simp only [wq, simprocAttr]
 refine hK _ ?_
 clear hK K
 try refine vthen_n ?_
 repeat refine VW.seq ?_
 refine VW.regl hT fun K hK => ?_
 simp only [wq, simprocAttr]
 refine vcall_of (isNaN_vc _) ?_
 simp only [wq, simprocAttr]
 refine hK _ ?_
 clear hK K
 try refine vthen_n ?_
 repeat refine VW.seq ?_
 refine VW.regl hT fun K hK => ?_
 simp only [wq, simprocAttr]
 refine vcall_of (isNaN_vc _) ?_
 simp only [wq, simprocAttr]
 refine hK _ ?_
 clear hK K
 try refine vthen_n ?_
 repeat refine VW.seq ?_
 refine VW.regl hT fun K hK => ?_
 simp only [wq, simprocAttr]
 refine hK _ ?_
 clear hK K
 try refine vthen_n ?_
 repeat refine VW.seq ?_
 refine VW.cond rfl (fun hc => ?_) (fun hc => ?_)
 ·cases hc
 refine VW.skip (vthen_n ?_)
 repeat refine VW.seq ?_
 refine VW.regl hT fun K hK => ?_
 simp only [wq, simprocAttr]
 refine hK _ ?_
 clear hK K
 try refine vthen_n ?_
 repeat refine VW.seq ?_
 refine VW.cond rfl (fun hc => ?_) (fun hc => ?_)
 ·cases hc
 refine VW.skip (vthen_n ?_)
 repeat refine VW.seq ?_
 refine VW.regl hT fun K hK => ?_
 simp only [wq, simprocAttr]
 refine hK _ ?_
 clear hK K
 try refine vthen_n ?_
 repeat refine VW.seq ?_
 refine VW.cond rfl (fun hc => ?_) (fun hc => ?_)
 ·repeat refine VW.seq ?_
  refine VW.regl hT fun K hK => ?_
  simp only [wq, simprocAttr]
  refine hK _ ?_
  clear hK K
  try refine vthen_n ?_
  refine VW.ret ⟨.inl rfl, _, rfl, ?_⟩
  have hc : a < b := by simpa using hc
  simp only [cmpI, if_pos hc]
 have h1 : ¬ a < b := by simpa using hc
 refine VW.skip (vthen_n ?_)
 repeat refine VW.seq ?_
 refine VW.regl hT fun K hK => ?_
 simp only [wq, simprocAttr]
 refine hK _ ?_
 clear hK K
 try refine vthen_n ?_
 repeat refine VW.seq ?_
 refine VW.cond rfl (fun hc => ?_) (fun hc => ?_)
 ·repeat refine VW.seq ?_
  refine VW.regl hT fun K hK => ?_
  simp only [wq, simprocAttr]
  refine hK _ ?_
  clear hK K
  try refine vthen_n ?_
  refine VW.ret ⟨.inl rfl, _, rfl, ?_⟩
  have hc : a > b := by simpa using hc
  simp only [cmpI, if_neg h1, if_pos hc]
 have h2 : ¬ a > b := by simpa using hc
 refine VW.skip (vthen_n ?_)
 repeat refine VW.seq ?_
 refine VW.regl hT fun K hK => ?_
 simp only [wq, simprocAttr]
 refine hK _ ?_
 clear hK K
 try refine vthen_n ?_
 refine VW.ret ⟨.inl rfl, _, rfl, ?_⟩
 simp only [cmpI, if_neg h1, if_neg h2]
/-- x put into the row P, that lies backwards -/
def ins (c : Int → Int → Int) (x : Int) : List Int → List Int
 | [] => [x]
 | y :: r => if c x y < 0 then y :: ins c x r else x :: y :: r
def pre (c : Int → Int → Int) (xs : List Int) (i : Nat) : List Int := (xs.take i).foldl (fun P x => ins c x P) []
def isort (c : Int → Int → Int) (xs : List Int) : List Int := (pre c xs xs.length).reverse
theorem ins_len (c : Int → Int → Int) (x : Int) : ∀ P : List Int, (ins c x P).length = P.length + 1
 | [] => rfl
 | y :: r => by
  unfold ins
  split
  ·simp [ins_len c x r]
  ·simp
theorem pre_succ {c : Int → Int → Int} {xs : List Int} {i : Nat} (h : i < xs.length) : pre c xs (i + 1) = ins c (xs.getD i 0) (pre c xs i) := by
 unfold pre
 rw [List.take_add_one, List.foldl_append, List.getElem?_eq_getElem h, List.getD_eq_getElem?_getD, List.getElem?_eq_getElem h]
 rfl
theorem pre_len (c : Int → Int → Int) (xs : List Int) : ∀ i : Nat, i ≤ xs.length → (pre c xs i).length = i
 | 0, _ => rfl
 | i + 1, h => by rw [pre_succ (by omega), ins_len, pre_len c xs i (by omega)]
theorem ins_mem {c : Int → Int → Int} {x y : Int} : ∀ {P : List Int}, y ∈ ins c x P ↔ y = x ∨ y ∈ P
 | [] => by simp [ins]
 | z :: r => by
  unfold ins
  split
  ·rw [List.mem_cons, ins_mem, List.mem_cons]
   constructor
   ·rintro (h | h | h) <;> simp [h]
   ·rintro (h | h | h) <;> simp [h]
  ·simp
theorem pre_mem {c : Int → Int → Int} {xs : List Int} {y : Int} : ∀ i : Nat, i ≤ xs.length → y ∈ pre c xs i → y ∈ xs
 | 0, _, h => by simp [pre] at h
 | i + 1, hi, h => by
  rw [pre_succ (by omega), ins_mem] at h
  rcases h with rfl | h
  ·rw [List.getD_eq_getElem?_getD, List.getElem?_eq_getElem (by omega)]
   exact List.getElem_mem _
  ·exact pre_mem i (by omega) h
/-- the row while the i-th is put in: m are passed -/
def mid (c : Int → Int → Int) (xs : List Int) (i m : Nat) : List Int := ((pre c xs i).drop m).reverse ++ xs.getD i 0 :: (((pre c xs i).take m).reverse ++ xs.drop (i + 1))
/-- the row before the i-th is put in -/
def rowAt (c : Int → Int → Int) (xs : List Int) (i : Nat) : List Int := (pre c xs i).reverse ++ xs.drop i
theorem mid_zero {c : Int → Int → Int} {xs : List Int} {i : Nat} (h : i < xs.length) : mid c xs i 0 = rowAt c xs i := by
 unfold mid rowAt
 rw [List.drop_zero, List.take_zero, List.reverse_nil, List.nil_append, List.drop_eq_getElem_cons h, List.getD_eq_getElem?_getD, List.getElem?_eq_getElem h]
 rfl
theorem mid_len {c : Int → Int → Int} {xs : List Int} {i m : Nat} (h : i < xs.length) (hm : m ≤ i) : (mid c xs i m).length = xs.length := by
 have := pre_len c xs i (by omega)
 simp only [mid, List.length_append, List.length_reverse, List.length_cons, List.length_drop, List.length_take]
 omega
theorem rowAt_len {c : Int → Int → Int} {xs : List Int} {i : Nat} (h : i ≤ xs.length) : (rowAt c xs i).length = xs.length := by
 have := pre_len c xs i h
 simp only [rowAt, List.length_append, List.length_reverse, List.length_drop]
 omega
/-- the next to be passed -/
theorem drop_split {P : List Int} {m : Nat} (h : m < P.length) : P.drop m = P.getD m 0 :: P.drop (m + 1) := by
 rw [List.drop_eq_getElem_cons h, List.getD_eq_getElem?_getD, List.getElem?_eq_getElem h]; rfl
theorem mid_shape {c : Int → Int → Int} {xs : List Int} {i m : Nat} (h : i < xs.length) (hm : m < i) :
  mid c xs i m = ((pre c xs i).drop (m + 1)).reverse ++ (pre c xs i).getD m 0 :: xs.getD i 0 :: (((pre c xs i).take m).reverse ++ xs.drop (i + 1)) ∧ mid c xs i (m + 1) = ((pre c xs i).drop (m + 1)).reverse ++ xs.getD i 0 :: (pre c xs i).getD m 0 :: (((pre c xs i).take m).reverse ++ xs.drop (i + 1)) := by
 have hl := pre_len c xs i (by omega)
 unfold mid
 constructor
 ·rw [drop_split (by omega), List.reverse_cons, List.append_assoc]; rfl
 ·have e : (pre c xs i).take (m + 1) = (pre c xs i).take m ++ [(pre c xs i).getD m 0] := by
   rw [List.take_add_one, List.getElem?_eq_getElem (by omega), List.getD_eq_getElem?_getD, List.getElem?_eq_getElem (by omega)]
   rfl
  rw [e, List.reverse_append]
  rfl
theorem ins_pass {c : Int → Int → Int} {x : Int} : ∀ (P : List Int) (m : Nat), m ≤ P.length → (∀ k, k < m → c x (P.getD k 0) < 0) → ins c x P = P.take m ++ ins c x (P.drop m)
 | P, 0, _, _ => by simp
 | [], m + 1, h, _ => by simp at h
 | y :: r, m + 1, h, hk => by
  have h0 := hk 0 (by omega)
  simp only [List.getD_cons_zero] at h0
  rw [show ins c x (y :: r) = y :: ins c x r by simp [ins, h0], ins_pass r m (by simpa using h) (fun k hkm => by simpa using hk (k + 1) (by omega))]
  rfl
/-- the i-th has come to its place -/
theorem mid_done {c : Int → Int → Int} {xs : List Int} {i m : Nat} (h : i < xs.length) (hm : m ≤ i) (hp : ∀ k, k < m → c (xs.getD i 0) ((pre c xs i).getD k 0) < 0) (he : m = i ∨ ¬ c (xs.getD i 0) ((pre c xs i).getD m 0) < 0) : mid c xs i m = rowAt c xs (i + 1) := by
 have hl := pre_len c xs i (by omega)
 unfold mid rowAt
 rw [pre_succ h, ins_pass (pre c xs i) m (by omega) hp]
 have : ins c (xs.getD i 0) ((pre c xs i).drop m) = xs.getD i 0 :: (pre c xs i).drop m := by
  rcases he with rfl | he
  ·rw [List.drop_eq_nil_of_le (by omega)]; rfl
  ·rcases Nat.lt_or_ge m i with hmi | hmi
   ·rw [drop_split (by omega)]
    simp only [ins, if_neg he]
   ·rw [List.drop_eq_nil_of_le (by omega)]; rfl
 rw [this]
 simp
theorem app_getD {A B : List Int} {x y : Int} {j : Nat} (h : A.length + 1 = j) : (A ++ y :: x :: B).getD j 0 = x ∧ (A ++ y :: x :: B).getD (j - 1) 0 = y := by
 subst h
 constructor
 ·rw [List.getD_eq_getElem?_getD, List.getElem?_append_right (by omega)]
  simp
 ·rw [List.getD_eq_getElem?_getD, List.getElem?_append_right (by omega)]
  simp
theorem app_swap {A B : List Int} {x y : Int} {j : Nat} (h : A.length + 1 = j) : ((A ++ y :: x :: B).set j y).set (j - 1) x = A ++ x :: y :: B := by
 subst h
 rw [List.set_append_right _ _ (by omega), List.set_append_right _ _ (by omega)]
 simp
end Go.Proofs.YtoeblmcibheldaaGreatDoor.V.W
end
section
namespace Go.Proofs.YtoeblmcibheldaaGreatDoor.V.W
open Go Go.RowKit
abbrev nil0 : PV := .root (.tup []) .unit .fz ()
theorem rowAt_one {c : Int → Int → Int} {xs : List Int} (h : 0 < xs.length) : rowAt c xs 1 = xs := by
 unfold rowAt
 rw [pre_succ h]
 cases xs with
 | nil => simp at h
 | cons x r => simp [pre, ins]
theorem rowAt_all {c : Int → Int → Int} {xs : List Int} {i : Nat} (h : i = xs.length) : rowAt c xs i = isort c xs := by
 subst h; simp [rowAt, isort]
set_option maxRecDepth 20000 in
theorem insSort_vx (xs : List Int) (f : FuncId) (sc : Sh) (xc : sc.ty) (c : Int → Int → Int) (hp : ∀ a b, a ∈ xs → b ∈ xs → VC Tryz.prog f [.v false (.int .i64) (a), .v false (.int .i64) (b), .fadr sc xc] (· = .v false (.int .i64) (c a b))) (h0 : 0 < xs.length) (hl : xs.length ≤ 2000000) :
  VX Tryz.prog 229 [.root (.val false) sI .own xs, .v false (.int .i64) (0), .v false (.int .i64) (xs.length), .fn f [.fadr sc xc]] 0 (fun pv ot => pv = nil0 ∧ ot = .root (.val false) sI .own (isort c xs)) := by
 refine VX.of_rows hT Tryz.func229 rfl (by kernel_rfl) [] (by kernel_rfl) rfl rfl h0 fun l fi li e1 e2 => ?_
 obtain ⟨n, cp, rfl, rfl⟩ := io1 e1 e2
 show VW _ _ ([.root (.val false) sI (.io n cp) xs, .v false (.int .i64) (0), .v false (.int .i64) (xs.length), .fn f [.fadr sc xc], D, D, D, D, D, D, D, D, D, D, D, D, D, D, D, D, D, D, D, D, D, D, D, D, D, D, D, D, D, D, D, D, D, D, D, D, D, D, D, D, D, D, D, D, D, D, D, D, D]) _
 repeat refine VW.seq ?_
 refine VW.regl hT fun K hK => ?_
 simp only [wq, simprocAttr]
 refine hK _ ?_
 clear hK K
 try refine vthen_n ?_
 rw [wrap64 (by omega) (by omega)]
 repeat refine VW.seq ?_
 refine VW.block ?_
 refine VW.loop (α := Nat) [(0, none), (1, none), (2, none), (3, none), (8, none)] (fun i => [.root (.val false) sI (.io n cp) (rowAt c xs i), .v false (.int .i64) (0), .v false (.int .i64) (xs.length), .fn f [.fadr sc xc], D, D, D, D, .v false (.int .i64) (i), D, D, D, D, D, D, D, D, D, D, D, D, D, D, D, D, D, D, D, D, D, D, D, D, D, D, D, D, D, D, D, D, D, D, D, D, D, D, D, D, D, D, D, D]) (fun i => 1 ≤ i ∧ i ≤ xs.length) (fun i => xs.length - i) ⟨1, ⟨Nat.le_refl _, h0⟩, ?_⟩ fun i ⟨hi1, hi⟩ => ?_
 ·simp only [wn, wq, simprocAttr]
  rw [rowAt_one h0]
  try rfl
 repeat refine VW.seq ?_
 refine VW.regl hT fun K hK => ?_
 simp only [wq, simprocAttr]
 refine hK _ ?_
 clear hK K
 try refine vthen_n ?_
 repeat refine VW.seq ?_
 refine VW.cond rfl (fun hc => ?_) (fun hc => ?_)
 ·have hlt : i < xs.length := by simpa using hc
  have hpl := pre_len c xs i hi
  refine VW.skip (vthen_n ?_)
  repeat refine VW.seq ?_
  refine VW.block ?_
  repeat refine VW.seq ?_
  refine VW.regl hT fun K hK => ?_
  simp only [wq, simprocAttr]
  refine hK _ ?_
  clear hK K
  try refine vthen_n ?_
  repeat refine VW.seq ?_
  refine VW.block ?_
  refine VW.loop (α := Nat) [(0, none), (1, none), (2, none), (3, none), (8, none), (9, none)] (fun m => [.root (.val false) sI (.io n cp) (mid c xs i m), .v false (.int .i64) (0), .v false (.int .i64) (xs.length), .fn f [.fadr sc xc], D, D, D, D, .v false (.int .i64) (i), .v false (.int .i64) (((i - m : Nat) : Int)), D, D, D, D, D, D, D, D, D, D, D, D, D, D, D, D, D, D, D, D, D, D, D, D, D, D, D, D, D, D, D, D, D, D, D, D, D, D, D, D, D, D, D]) (fun m => m ≤ i ∧ ∀ k, k < m → c (xs.getD i 0) ((pre c xs i).getD k 0) < 0) (fun m => i - m) ⟨0, ⟨by omega, fun k hk => by omega⟩, ?_⟩ fun m ⟨hmi, hmm⟩ => ?_
  ·simp only [wn, wq, simprocAttr]
   rw [mid_zero hlt]
   try rfl
  have hml := mid_len (c := c) (m := m) hlt hmi
  repeat refine VW.seq ?_
  refine VW.drawl hT hm (by kernel_rfl) fun K hK => ?_
  simp only [wq, simprocAttr]
  refine vbr (fun g => ?_) (fun g => ?_) <;> simp only [wq, simprocAttr]
  ·have hlt' : m < i := by
    have : (0 : Int) < ((i - m : Nat) : Int) := by simpa using g
    omega
   have hsh := mid_shape (c := c) hlt hlt'
   have hAl : (((pre c xs i).drop (m + 1)).reverse).length + 1 = i - m := by simp; omega
   have hgx : (mid c xs i m).getD (i - m) 0 = xs.getD i 0 := by rw [hsh.1]; exact (app_getD hAl).1
   have hgy : (mid c xs i m).getD (i - m - 1) 0 = (pre c xs i).getD m 0 := by rw [hsh.1]; exact (app_getD hAl).2
   have hw : IntKind.i64.wrap (((i - m : Nat) : Int) - 1) = ((i - m - 1 : Nat) : Int) := by rw [wrap64 (by omega) (by omega)]; omega
   have hwn : Int.toNat ((i - m - 1 : Nat) : Int) = i - m - 1 := by omega
   have hmx : xs.getD i 0 ∈ xs := by
    rw [List.getD_eq_getElem?_getD, List.getElem?_eq_getElem hlt]; exact List.getElem_mem _
   have hmy : (pre c xs i).getD m 0 ∈ xs := by
    refine pre_mem (c := c) i hi ?_
    rw [List.getD_eq_getElem?_getD, List.getElem?_eq_getElem (by omega)]; exact List.getElem_mem _
   rw [hw]
   refine ⟨by kernel_rfl, by kernel_rfl, decide_eq_true ⟨Int.natCast_nonneg _, by show ((i - m : Nat) : Int) < ((mid c xs i m).length : Int); omega⟩, by kernel_rfl, by kernel_rfl, by kernel_rfl, decide_eq_true ⟨Int.natCast_nonneg _, by show ((i - m - 1 : Nat) : Int) < ((mid c xs i m).length : Int); omega⟩, by kernel_rfl, ?_⟩
   rw [hwn, hgx, hgy]
   refine vcallD_of (hp _ _ hmx hmy) ?_
   simp only [wq, simprocAttr]
   refine hK _ ?_
   clear hK K
   try refine vthen_n ?_
   repeat refine VW.seq ?_
   refine VW.cond rfl (fun hc => ?_) (fun hc => ?_)
   ·refine VW.skip ?_
    show vthen _ _ _ .normal _
    refine vthen_n ?_
    repeat refine VW.seq ?_
    refine VW.block ?_
    repeat refine VW.seq ?_
    refine VW.mixl hT hm 5 14 (by kernel_rfl) fun K hK => ?_
    simp only [wq, simprocAttr]
    rw [hw]
    have hsl : ∀ y : Int, ((mid c xs i m).set (i - m) y).length = (mid c xs i m).length := fun y => by rw [List.length_set]
    refine ⟨by kernel_rfl, by kernel_rfl, decide_eq_true ⟨Int.natCast_nonneg _, by show ((i - m - 1 : Nat) : Int) < ((mid c xs i m).length : Int); omega⟩, by kernel_rfl, by kernel_rfl, by kernel_rfl, decide_eq_true ⟨Int.natCast_nonneg _, by show ((i - m : Nat) : Int) < ((mid c xs i m).length : Int); omega⟩, by kernel_rfl, decide_eq_true ⟨Int.natCast_nonneg _, by show ((i - m : Nat) : Int) < ((mid c xs i m).length : Int); omega⟩, decide_eq_true ⟨Int.natCast_nonneg _, ?_⟩, ?_⟩
    ·show ((i - m - 1 : Nat) : Int) < ((List.set _ _ _).length : Int)
     rw [List.length_set]; omega
    rw [hwn, hgx, hgy]
    have hsw : ((mid c xs i m).set (i - m) ((pre c xs i).getD m 0)).set (i - m - 1) (xs.getD i 0) = mid c xs i (m + 1) := by
     rw [hsh.1, hsh.2]; exact app_swap hAl
    rw [hsw]
    refine hK _ ?_
    clear hK K
    try refine vthen_n ?_
    repeat refine VW.seq ?_
    refine VW.regl hT fun K hK => ?_
    simp only [wq, simprocAttr]
    refine hK _ ?_
    clear hK K
    try refine vthen_n ?_
    refine ⟨m + 1, ⟨hlt', fun k hk => ?_⟩, ?_, by show i - (m + 1) < i - m; omega⟩
    ·rcases Nat.lt_or_ge k m with h1 | h1
     ·exact hmm k h1
     ·obtain rfl : k = m := by omega
      simpa using hc
    ·simp only [wn, wq, simprocAttr]
     rw [hw, show ((i - m - 1 : Nat) : Int) = ((i - (m + 1) : Nat) : Int) by omega]
   ·refine VW.exit ?_
    show vthen _ _ _ .normal _
    refine vthen_n ?_
    repeat refine VW.seq ?_
    refine VW.regl hT fun K hK => ?_
    simp only [wq, simprocAttr]
    refine hK _ ?_
    clear hK K
    try refine vthen_n ?_
    refine ⟨i + 1, ⟨by omega, by omega⟩, ?_, by show xs.length - (i + 1) < xs.length - i; omega⟩
    simp only [wn, wq, simprocAttr]
    rw [wrap64 (by omega) (by omega), mid_done hlt hmi hmm (.inr (by simpa using hc))]
    try rfl
  ·have hme : m = i := by
    have : ¬ (0 : Int) < ((i - m : Nat) : Int) := by simpa using g
    omega
   subst hme
   refine hK _ ?_
   clear hK K
   try refine vthen_n ?_
   repeat refine VW.seq ?_
   refine VW.cond rfl (fun hc => ?_) (fun hc => ?_)
   ·cases hc
   refine VW.exit ?_
   show vthen _ _ _ .normal _
   refine vthen_n ?_
   repeat refine VW.seq ?_
   refine VW.regl hT fun K hK => ?_
   simp only [wq, simprocAttr]
   refine hK _ ?_
   clear hK K
   try refine vthen_n ?_
   refine ⟨m + 1, ⟨by omega, by omega⟩, ?_, by show xs.length - (m + 1) < xs.length - m; omega⟩
   simp only [wn, wq, simprocAttr]
   rw [wrap64 (by omega) (by omega), mid_done hlt hmi hmm (.inl rfl)]
   try rfl
 ·have hge : xs.length ≤ i := by simpa using hc
  refine VW.exit ?_
  refine ⟨.inr rfl, _, _, _, _, rfl, ⟨0, _, rfl⟩, ?_, rfl, ?_⟩
  ·show some [Value.slice (some ⟨n, 0, none⟩) (rowAt c xs i).length cp] = some [Value.slice (some ⟨n, 0, none⟩) xs.length cp]
   rw [rowAt_len hi]
  ·show PV.root (.val false) sI .own (rowAt c xs i) = _
   rw [rowAt_all (by omega)]
end Go.Proofs.YtoeblmcibheldaaGreatDoor.V.W
end
section
namespace Go.Proofs.YtoeblmcibheldaaGreatDoor.V.W
open Go Go.RowKit
/-- the first and the last i turned -/
def revTo (xs : List Int) (i : Nat) : List Int := (List.range xs.length).map fun m => if m < i ∨ xs.length ≤ m + i then xs.getD (xs.length - 1 - m) 0 else xs.getD m 0
theorem revTo_len (xs : List Int) (i : Nat) : (revTo xs i).length = xs.length := by simp [revTo]
theorem revTo_get {xs : List Int} {i m : Nat} (h : m < xs.length) : (revTo xs i).getD m 0 = if m < i ∨ xs.length ≤ m + i then xs.getD (xs.length - 1 - m) 0 else xs.getD m 0 := by
 rw [revTo, List.getD_eq_getElem?_getD, List.getElem?_map, List.getElem?_range h]; rfl
theorem list_ext {xs ys : List Int} (h : xs.length = ys.length) (hg : ∀ m, m < xs.length → xs.getD m 0 = ys.getD m 0) : xs = ys := by
 refine List.ext_getElem h fun m h1 h2 => ?_
 have := hg m h1
 rwa [List.getD_eq_getElem?_getD, List.getElem?_eq_getElem h1, List.getD_eq_getElem?_getD, List.getElem?_eq_getElem h2] at this
theorem set_getD {xs : List Int} {j m : Nat} {y : Int} (h : m < xs.length) : (xs.set j y).getD m 0 = if j = m then y else xs.getD m 0 := by
 rw [List.getD_eq_getElem?_getD, List.getElem?_set, List.getD_eq_getElem?_getD]
 by_cases e : j = m
 ·subst e; simp [h]
 ·simp [e]
theorem revTo_zero (xs : List Int) : revTo xs 0 = xs := by
 refine list_ext (revTo_len _ _) fun m hm => ?_
 rw [revTo_len] at hm
 rw [revTo_get hm, if_neg (by omega)]
theorem revTo_done {xs : List Int} {i : Nat} (h : xs.length - 1 - i ≤ i) : revTo xs i = xs.reverse := by
 refine list_ext (by rw [revTo_len, List.length_reverse]) fun m hm => ?_
 rw [revTo_len] at hm
 rw [revTo_get hm, List.getD_eq_getElem?_getD (l := xs.reverse), List.getElem?_reverse hm, ← List.getD_eq_getElem?_getD]
 split
 ·rfl
 ·congr 1; omega
theorem revTo_step {xs : List Int} {i : Nat} (h : i < xs.length - 1 - i) : ((revTo xs i).set i (xs.getD (xs.length - 1 - i) 0)).set (xs.length - 1 - i) (xs.getD i 0) = revTo xs (i + 1) := by
 refine list_ext (by simp only [List.length_set, revTo_len]) fun m hm => ?_
 simp only [List.length_set, revTo_len] at hm
 rw [set_getD (by simp only [List.length_set, revTo_len]; exact hm), set_getD (by rw [revTo_len]; exact hm), revTo_get hm, revTo_get hm]
 by_cases e1 : xs.length - 1 - i = m
 ·rw [if_pos e1, if_pos (by omega)]; congr 1; omega
 ·rw [if_neg e1]
  by_cases e2 : i = m
  ·subst e2; rw [if_pos rfl, if_pos (by omega)]
  ·rw [if_neg e2]
   by_cases e3 : m < i ∨ xs.length ≤ m + i
   ·rw [if_pos e3, if_pos (by omega)]
   ·rw [if_neg e3, if_neg (by omega)]
set_option maxRecDepth 20000 in
theorem reverse_vx (xs : List Int) (h0 : 0 < xs.length) (hl : xs.length ≤ 2000000) :
  VX Tryz.prog 133 [.root (.val false) sI .own xs] 0 (fun pv ot => pv = nil0 ∧ ot = .root (.val false) sI .own xs.reverse) := by
 refine VX.of_rows hT Tryz.func133 rfl (by kernel_rfl) [] (by kernel_rfl) rfl rfl h0 fun l fi li e1 e2 => ?_
 obtain ⟨n, cp, rfl, rfl⟩ := io1 e1 e2
 show VW _ _ ([.root (.val false) sI (.io n cp) xs, D, D, D, D, D, D, D, D, D, D, D, D, D, D, D, D, D, D, D, D, D, D, D, D, D, D, D]) _
 repeat refine VW.seq ?_
 refine VW.regl hT fun K hK => ?_
 simp only [wq, simprocAttr]
 refine hK _ ?_
 clear hK K
 try refine vthen_n ?_
 rw [wrap64 (by omega) (by omega)]
 repeat refine VW.seq ?_
 refine VW.block ?_
 refine VW.loop (α := Nat) [(0, none), (2, none), (3, none)] (fun i => [.root (.val false) sI (.io n cp) (revTo xs i), D, .v false (.int .i64) (i), .v false (.int .i64) ((xs.length : Int) - 1 - i), D, D, D, D, D, D, D, D, D, D, D, D, D, D, D, D, D, D, D, D, D, D, D, D]) (fun i => 2 * i ≤ xs.length + 1) (fun i => xs.length + 1 - i) ⟨0, by omega, ?_⟩ fun i hi => ?_
 ·simp only [wn, wq, simprocAttr]
  rw [revTo_zero]
  simp
 repeat refine VW.seq ?_
 refine VW.regl hT fun K hK => ?_
 simp only [wq, simprocAttr]
 refine hK _ ?_
 clear hK K
 try refine vthen_n ?_
 have hrl := revTo_len xs i
 repeat refine VW.seq ?_
 refine VW.cond rfl (fun hc => ?_) (fun hc => ?_)
 ·have hlt : (i : Int) < (xs.length : Int) - 1 - i := of_decide_eq_true hc
  have hj : (xs.length : Int) - 1 - i = ((xs.length - 1 - i : Nat) : Int) := by omega
  rw [hj]
  refine VW.skip (vthen_n ?_)
  repeat refine VW.seq ?_
  refine VW.block ?_
  repeat refine VW.seq ?_
  refine VW.mixl hT hm 4 12 (by kernel_rfl) fun K hK => ?_
  simp only [wq, simprocAttr]
  refine ⟨by kernel_rfl, by kernel_rfl, decide_eq_true ⟨Int.natCast_nonneg _, by show ((xs.length - 1 - i : Nat) : Int) < ((revTo xs i).length : Int); omega⟩, by kernel_rfl, by kernel_rfl, by kernel_rfl, decide_eq_true ⟨Int.natCast_nonneg _, by show (i : Int) < ((revTo xs i).length : Int); omega⟩, by kernel_rfl, decide_eq_true ⟨Int.natCast_nonneg _, by show (i : Int) < ((revTo xs i).length : Int); omega⟩, decide_eq_true ⟨Int.natCast_nonneg _, by show ((xs.length - 1 - i : Nat) : Int) < ((List.set _ _ _).length : Int); rw [List.length_set]; omega⟩, ?_⟩
  have g1 : (revTo xs i).getD (xs.length - 1 - i) 0 = xs.getD (xs.length - 1 - i) 0 := by rw [revTo_get (by omega), if_neg (by omega)]
  have g2 : (revTo xs i).getD i 0 = xs.getD i 0 := by rw [revTo_get (by omega), if_neg (by omega)]
  rw [g1, g2, revTo_step (by omega)]
  refine hK _ ?_
  clear hK K
  try refine vthen_n ?_
  repeat refine VW.seq ?_
  refine VW.regl hT fun K hK => ?_
  simp only [wq, simprocAttr]
  refine hK _ ?_
  clear hK K
  try refine vthen_n ?_
  refine ⟨i + 1, by omega, ?_, by show xs.length + 1 - (i + 1) < xs.length + 1 - i; omega⟩
  simp only [wn, wq, simprocAttr]
  rw [wrap64 (by omega) (by omega), wrap64 (by omega) (by omega), show ((xs.length - 1 - i : Nat) : Int) - 1 = (xs.length : Int) - 1 - ((i + 1 : Nat) : Int) by omega]
  rfl
 ·have hge : ¬ (i : Int) < (xs.length : Int) - 1 - i := of_decide_eq_false hc
  refine VW.exit ?_
  refine ⟨.inr rfl, _, _, _, _, rfl, ⟨0, _, rfl⟩, ?_, rfl, ?_⟩
  ·show some [Value.slice (some ⟨n, 0, none⟩) (revTo xs i).length cp] = some [Value.slice (some ⟨n, 0, none⟩) xs.length cp]
   rw [hrl]
  ·show PV.root (.val false) sI .own (revTo xs i) = _
   rw [revTo_done (by omega)]
/-- the bridge i steps above -/
def anc (t : List Nd) (k : Int) : Nat → Int
 | 0 => k
 | i + 1 => (t.getD (anc t k i).toNat z).1
/-- a node and all above it, from the root on -/
def pathTo (t : List Nd) (k : Int) : List Int := if (treeOk t && inB k 0 (t.length - 1)) = true then (((List.range t.length).map (anc t k)).filter fun x => decide (0 ≤ x)).reverse else []
theorem anc_lt {t : List Nd} {k : Int} (h : treeOk t = true) (hk : k < t.length) : ∀ i, -1 ≤ k → -1 ≤ anc t k i ∧ anc t k i < t.length ∧ (0 ≤ anc t k i → anc t k i ≤ k - i)
 | 0, h0 => ⟨h0, hk, fun _ => by show k ≤ k - 0; omega⟩
 | i + 1, h0 => by
  have h1 := anc_lt h hk i h0
  have hl := treeOk_len h
  show -1 ≤ (t.getD (anc t k i).toNat z).1 ∧ (t.getD (anc t k i).toNat z).1 < t.length ∧ (0 ≤ (t.getD (anc t k i).toNat z).1 → (t.getD (anc t k i).toNat z).1 ≤ k - ((i + 1 : Nat) : Int))
  rcases Nat.eq_zero_or_pos (anc t k i).toNat with e | e
  ·rw [e, (tree_parts h).2.1]
   exact ⟨by decide, by show (-1 : Int) < _; omega, fun h => absurd h (by decide)⟩
  ·obtain ⟨p, hp, hpl⟩ := par h (j := (anc t k i).toNat) (by omega) (by omega)
   rw [hp]
   omega
theorem anc_out {t : List Nd} {k : Int} (h : treeOk t = true) {i : Nat} (hi : anc t k i < 0) : ∀ j, i ≤ j → anc t k j < 0
 | 0, hj => by
  obtain rfl : i = 0 := by omega
  exact hi
 | j + 1, hj => by
  rcases Nat.lt_or_ge j i with h1 | h1
  ·obtain rfl : i = j + 1 := by omega
   exact hi
  ·have := anc_out h hi j h1
   show (t.getD (anc t k j).toNat z).1 < 0
   rw [show (anc t k j).toNat = 0 by omega, (tree_parts h).2.1]
   decide
/-- the first i -/
def accTo (t : List Nd) (k : Int) (i : Nat) : List Int := (List.range i).map (anc t k)
theorem accTo_succ (t : List Nd) (k : Int) (i : Nat) : accTo t k (i + 1) = accTo t k i ++ [anc t k i] := by simp [accTo, List.range_succ]
theorem accTo_all {t : List Nd} {k : Int} (h : treeOk t = true) {i : Nat} (hi : anc t k i < 0) (hj : ∀ j, j < i → 0 ≤ anc t k j) : ∀ n, i ≤ n → (((List.range n).map (anc t k)).filter fun x => decide (0 ≤ x)) = accTo t k i
 | 0, hn => by
  obtain rfl : i = 0 := by omega
  rfl
 | n + 1, hn => by
  rcases Nat.lt_or_ge n i with h1 | h1
  ·obtain rfl : i = n + 1 := by omega
   unfold accTo
   rw [List.filter_eq_self]
   intro x hx
   obtain ⟨j, h2, rfl⟩ := List.mem_map.1 hx
   exact decide_eq_true (hj j (List.mem_range.1 h2))
  ·rw [List.range_succ, List.map_append, List.filter_append, accTo_all h hi hj n h1]
   have := anc_out h hi n h1
   simp only [List.map_cons, List.map_nil, List.filter_cons, List.filter_nil]
   rw [if_neg (by rw [decide_eq_true_iff]; omega), List.append_nil]
set_option maxRecDepth 20000 in
theorem pathTo_vc (t : List Nd) (k : Int) (hl : t.length ≤ 2000000) : VC Tryz.prog 132 [.v false sNS t, .v false (.int .i64) (k)] (· = .root (.val false) sI .own (pathTo t k)) := by
 refine VC.of_body hT Tryz.func132 rfl (by kernel_rfl) [(.tmp 4, false, sI)] (by kernel_rfl) ?_
 show VW _ _ ([.v false sNS t, .v false (.int .i64) (k), D, D, D, D, D, D, D, D, D, D, D, D, D, D, D, D, D, D, D, D, D, D, D, D]) _
 repeat refine VW.seq ?_
 refine VW.regl hT fun K hK => ?_
 simp only [wq, simprocAttr]
 refine hK _ ?_
 clear hK K
 try refine vthen_n ?_
 repeat refine VW.seq ?_
 refine VW.regl hT fun K hK => ?_
 simp only [wq, simprocAttr]
 refine hK _ ?_
 clear hK K
 try refine vthen_n ?_
 repeat refine VW.seq ?_
 refine VW.regl hT fun K hK => ?_
 simp only [wq, simprocAttr]
 refine vcall_of (isNode_vc t k hl) ?_
 simp only [wq, simprocAttr]
 refine hK _ ?_
 clear hK K
 try refine vthen_n ?_
 repeat refine VW.seq ?_
 refine VW.cond rfl (fun hc => ?_) (fun hc => ?_)
 ·repeat refine VW.seq ?_
  refine VW.regl hT fun K hK => ?_
  simp only [wq, simprocAttr]
  refine hK _ ?_
  clear hK K
  try refine vthen_n ?_
  refine VW.ret ⟨.inl rfl, _, rfl, ?_⟩
  have h' : (treeOk t && inB k 0 (t.length - 1)) = false := (Bool.not_eq_true' _).mp hc
  rw [pathTo, h']
  rfl
 have hok : (treeOk t && inB k 0 (t.length - 1)) = true := by
  have := hc
  rwa [Bool.not_eq_false'] at this
 have hk := hok
 simp only [Bool.and_eq_true] at hk
 have htr := hk.1
 have hk := inB_iff.1 hk.2
 have htl := treeOk_len htr
 refine VW.skip ?_
 show vthen _ _ _ .normal _
 refine vthen_n ?_
 repeat refine VW.seq ?_
 refine VW.block ?_
 refine VW.loop (α := Nat) [(0, none), (1, none), (5, some (3, .int .i64))] (fun i => [.v false sNS t, .v false (.int .i64) (anc t k i), D, D, D, .root (.val false) sI .own (accTo t k i), D, D, D, D, D, D, D, D, D, D, D, D, D, D, D, D, D, D, D, D]) (fun i => i ≤ t.length ∧ ∀ j, j < i → 0 ≤ anc t k j) (fun i => t.length - i) ⟨0, ⟨by omega, fun j hj => by omega⟩, ?_⟩ fun i ⟨hi, hj⟩ => ?_
 ·simp only [wn, wq, simprocAttr]
  try rfl
 have ha := anc_lt htr (show k < t.length by omega) i (by omega)
 have hal : (accTo t k i).length = i := by simp [accTo]
 repeat refine VW.seq ?_
 refine VW.regl hT fun K hK => ?_
 simp only [wq, simprocAttr]
 refine hK _ ?_
 clear hK K
 try refine vthen_n ?_
 repeat refine VW.seq ?_
 refine VW.cond rfl (fun hc => ?_) (fun hc => ?_)
 ·have hge : 0 ≤ anc t k i := of_decide_eq_true hc
  have := ha.2.2 hge
  refine VW.skip (vthen_n ?_)
  repeat refine VW.seq ?_
  refine VW.block ?_
  repeat refine VW.seq ?_
  refine VW.regl hT fun K hK => ?_
  simp only [wq, simprocAttr]
  refine ⟨by simp [limOk]; omega, ?_⟩
  refine hK _ ?_
  clear hK K
  try refine vthen_n ?_
  repeat refine VW.seq ?_
  refine VW.regl hT fun K hK => ?_
  simp only [wq, simprocAttr]
  refine ⟨decide_eq_true ⟨hge, ha.2.1⟩, ?_⟩
  refine hK _ ?_
  clear hK K
  try refine vthen_n ?_
  refine ⟨i + 1, ⟨by omega, fun j h => ?_⟩, ?_, by show t.length - (i + 1) < t.length - i; omega⟩
  ·rcases Nat.lt_or_ge j i with h1 | h1
   ·exact hj j h1
   ·obtain rfl : j = i := by omega
    exact hge
  ·simp only [wn, wq, simprocAttr]
   rw [accTo_succ]
   rfl
 ·have hlt : anc t k i < 0 := by
   have : ¬ 0 ≤ anc t k i := of_decide_eq_false hc
   omega
  refine VW.exit ?_
  show vthen _ _ _ .normal _
  refine vthen_n ?_
  have h0 : 0 < (accTo t k i).length := by
   rcases Nat.eq_zero_or_pos i with rfl | h
   ·exact absurd hk.1 (by show ¬ 0 ≤ k; exact (by have : anc t k 0 = k := rfl; omega))
   ·omega
  repeat refine VW.seq ?_
  refine VW.regl hT fun K hK => ?_
  simp only [wq, simprocAttr]
  refine vcall_io 0 ?_
  simp only [wq, simprocAttr]
  refine vxcall_of (reverse_vx _ h0 (by omega)) ?_
  simp only [wq, simprocAttr]
  refine hK _ ?_
  clear hK K
  try refine vthen_n ?_
  repeat refine VW.seq ?_
  refine VW.regl hT fun K hK => ?_
  simp only [wq, simprocAttr]
  refine hK _ ?_
  clear hK K
  try refine vthen_n ?_
  refine VW.ret ⟨.inl rfl, _, rfl, ?_⟩
  rw [pathTo, if_pos hok, accTo_all htr hlt hj _ hi]
end Go.Proofs.YtoeblmcibheldaaGreatDoor.V.W
end
section
namespace Go.Proofs.YtoeblmcibheldaaGreatDoor.V.W
open Go Go.RowKit
set_option maxRecDepth 20000 in
theorem specTreeOk_vc (t : List Nd) (hl : t.length ≤ 2000000) : VC Tryz.prog 117 [.v false sNS t] (· = .v false .bool (treeOk t)) := by
 refine VC.of_body hT Tryz.func117 rfl (by kernel_rfl) [(.tmp 2, false, .bool)] (by kernel_rfl) ?_
 show VW _ _ ([.v false sNS t, D, D, D, D, D, D, D, D, D, D, D, D, D, D, D, D, D, D, D, D, D, D, D, D, D, D, D, D, D, D, D, D, D, D, D, D, D, D, D, D, D, D, D, D, D, D, D, D, D, D, D, D, D, D, D, D, D, D, D, D, D, D, D, D, D, D, D, D, D, D, D, D, D, D, D, D]) _
 repeat refine VW.seq ?_
 refine VW.regl hT fun K hK => ?_
 simp only [wq, simprocAttr]
 refine hK _ ?_
 clear hK K
 try refine vthen_n ?_
 repeat refine VW.seq ?_
 refine VW.regl hT fun K hK => ?_
 simp only [wq, simprocAttr]
 refine vcall_of (in_vc _ _ _) ?_
 simp only [wq, simprocAttr]
 refine vbr (fun h1 => ?_) (fun h1 => ?_) <;> simp only [wq, simprocAttr]
 case refine_2 =>
  refine hK _ ?_
  clear hK K
  try refine vthen_n ?_
  repeat refine VW.seq ?_
  refine VW.cond rfl (fun hc => ?_) (fun hc => ?_)
  ·repeat refine VW.seq ?_
   refine VW.regl hT fun K hK => ?_
   simp only [wq, simprocAttr]
   refine hK _ ?_
   clear hK K
   try refine vthen_n ?_
   refine VW.ret ⟨.inl rfl, _, rfl, ?_⟩
   have h1 : inB t.length 1 12 = false := by simpa using h1
   simp only [treeOk, h1, Bool.false_and]
  ·cases hc
 have h1 : inB t.length 1 12 = true := by simpa using h1
 have hlen := inB_iff.1 h1
 refine ⟨by simp; omega, ?_⟩
 refine hK _ ?_
 clear hK K
 try refine vthen_n ?_
 repeat refine VW.seq ?_
 refine VW.cond rfl (fun hc => ?_) (fun hc => ?_)
 ·repeat refine VW.seq ?_
  refine VW.regl hT fun K hK => ?_
  simp only [wq, simprocAttr]
  refine hK _ ?_
  clear hK K
  try refine vthen_n ?_
  refine VW.ret ⟨.inl rfl, _, rfl, ?_⟩
  have hc' : (!eqv sN (t.getD 0 z) (-1, 0, 0)) = true := hc
  rw [eqN] at hc'
  have : (t.getD 0 z == (-1, 0, 0)) = false := by simpa using hc'
  have e : treeOk t = false := by simp only [treeOk, this, Bool.false_and, Bool.and_false]
  rw [e]
 have h2 : (t.getD 0 z == (-1, 0, 0)) = true := by
  have hc' : (!eqv sN (t.getD 0 z) (-1, 0, 0)) = false := hc
  rw [eqN] at hc'
  simpa using hc'
 have h20 : t.getD 0 z = (-1, 0, 0) := by simpa using h2
 refine VW.skip (vthen_n ?_)
 repeat refine VW.seq ?_
 refine VW.regl hT fun K hK => ?_
 simp only [wq, simprocAttr]
 refine hK _ ?_
 clear hK K
 try refine vthen_n ?_
 repeat refine VW.seq ?_
 refine VW.block ?_
 refine VW.loop (α := Nat) [(0, none), (3, none)] (fun i => [.v false sNS t, D, D, .v false (.int .i64) (((i + 1 : Nat) : Int)), D, D, D, D, D, D, D, D, D, D, D, D, D, D, D, D, D, D, D, D, D, D, D, D, D, D, D, D, D, D, D, D, D, D, D, D, D, D, D, D, D, D, D, D, D, D, D, D, D, D, D, D, D, D, D, D, D, D, D, D, D, D, D, D, D, D, D, D, D, D, D, D, D]) (fun i => i + 1 ≤ t.length ∧ ∀ k, k < i → bad t k = false) (fun i => t.length - i) ⟨0, ⟨by omega, fun k hk => by omega⟩, ?_⟩ fun i ⟨hi, hk⟩ => ?_
 ·simp only [wn, wq, simprocAttr]
  try rfl
 repeat refine VW.seq ?_
 refine VW.regl hT fun K hK => ?_
 simp only [wq, simprocAttr]
 refine hK _ ?_
 clear hK K
 try refine vthen_n ?_
 repeat refine VW.seq ?_
 refine VW.cond rfl (fun hc => ?_) (fun hc => ?_)
 ·have hlt : i + 1 < t.length := by
   have : ((i + 1 : Nat) : Int) < (t.length : Int) := by simpa using hc
   omega
  refine VW.skip (vthen_n ?_)
  repeat refine VW.seq ?_
  refine VW.block ?_
  repeat refine VW.seq ?_
  refine VW.regl hT fun K hK => ?_
  simp only [wq, simprocAttr]
  refine ⟨decide_eq_true ⟨Int.natCast_nonneg _, by show ((i + 1 : Nat) : Int) < (t.length : Int); omega⟩, ?_⟩
  refine hK _ ?_
  clear hK K
  try refine vthen_n ?_
  generalize hn : (t.getD (i + 1) z : Nd) = n
  have ex : ∀ b : Bool, bad1 t i n = b → bad t i = (b || (t.take (i + 1)).any (same n)) := by
   intro b hb; unfold bad; rw [hn, hb]
  repeat refine VW.seq ?_
  refine VW.regl hT fun K hK => ?_
  simp only [wq, simprocAttr]
  have hw : IntKind.i64.wrap (((i + 1 : Nat) : Int) - 1) = (i : Int) := by rw [wrap64 (by omega) (by omega)]; omega
  rw [hw]
  refine vcall_of (in_vc _ _ _) ?_
  simp only [wq, simprocAttr]
  refine vbr (fun g1 => ?_) (fun g1 => ?_) <;> simp only [wq, simprocAttr]
  ·have g1' : inB n.1 0 i = true := by simpa using g1
   have gi := inB_iff.1 g1'
   refine ⟨decide_eq_true ⟨gi.1, by show n.1 < (t.length : Int); omega⟩, ?_⟩
   refine vbr (fun g2 => ?_) (fun g2 => ?_) <;> simp only [wq, simprocAttr]
   ·refine vcall_of (in_vc _ _ _) ?_
    simp only [wq, simprocAttr]
    refine vbr (fun g3 => ?_) (fun g3 => ?_) <;> simp only [wq, simprocAttr]
    ·refine vcall_of (in_vc _ _ _) ?_
     simp only [wq, simprocAttr]
     refine hK _ ?_
     clear hK K
     try refine vthen_n ?_
     have b123 : bad1 t i n = !inB n.2.2 0 4 := by
      have g2' : ((t.getD n.1.toNat z).2.2 == 0) = true := by simpa using g2
      have g3' : inB n.2.1 0 3 = true := by simpa using g3
      simp only [bad1, g1', g2', g3', Bool.not_true, Bool.false_or]
     repeat refine VW.seq ?_
     refine VW.cond rfl (fun hc => ?_) (fun hc => ?_)
     ·repeat refine VW.seq ?_
      refine VW.regl hT fun K hK => ?_
      simp only [wq, simprocAttr]
      refine hK _ ?_
      clear hK K
      try refine vthen_n ?_
      refine VW.ret ⟨.inl rfl, _, rfl, ?_⟩
      rw [treeOk_false hlt ((ex true (b123.trans hc)).trans rfl)]
     ·have hb1 : bad1 t i n = false := b123.trans hc
      refine VW.skip ?_
      show vthen _ _ _ .normal _
      refine vthen_n ?_
      repeat refine VW.seq ?_
      refine VW.regl hT fun K hK => ?_
      simp only [wq, simprocAttr]
      refine hK _ ?_
      clear hK K
      try refine vthen_n ?_
      repeat refine VW.seq ?_
      refine VW.block ?_
      refine VW.loop (α := Nat) [(0, none), (3, none), (4, none), (5, none)] (fun j => [.v false sNS t, D, D, .v false (.int .i64) (((i + 1 : Nat) : Int)), .root (.box 68) sN .fz n, .v false (.int .i64) (((j + 1 : Nat) : Int)), D, D, D, D, D, D, D, D, D, D, D, D, D, D, D, D, D, D, D, D, D, D, D, D, D, D, D, D, D, D, D, D, D, D, D, D, D, D, D, D, D, D, D, D, D, D, D, D, D, D, D, D, D, D, D, D, D, D, D, D, D, D, D, D, D, D, D, D, D, D, D]) (fun j => j ≤ i ∧ ∀ k, k < j + 1 → same n (t.getD k z) = false) (fun j => t.length - j) ⟨0, ⟨by omega, fun k hk => ?_⟩, ?_⟩ fun j ⟨hj, hjk⟩ => ?_
      ·obtain rfl : k = 0 := by omega
       rw [h20]
       have : ¬ (-1 : Int) = n.1 := by omega
       simp only [same]
       rw [show ((-1 : Int) == n.1) = false by simpa using this]
       rfl
      ·simp only [wn, wq, simprocAttr]
       try rfl
      repeat refine VW.seq ?_
      refine VW.regl hT fun K hK => ?_
      simp only [wq, simprocAttr]
      refine hK _ ?_
      clear hK K
      try refine vthen_n ?_
      repeat refine VW.seq ?_
      refine VW.cond rfl (fun hc => ?_) (fun hc => ?_)
      ·have hjl : j + 1 < i + 1 := by
        have : ((j + 1 : Nat) : Int) < ((i + 1 : Nat) : Int) := by simpa using hc
        omega
       refine VW.skip (vthen_n ?_)
       repeat refine VW.seq ?_
       refine VW.block ?_
       repeat refine VW.seq ?_
       refine VW.drawl hT hm (by kernel_rfl) fun K hK => ?_
       simp only [wq, simprocAttr]
       have hjx : decide (0 ≤ ((j + 1 : Nat) : Int) ∧ ((j + 1 : Nat) : Int) < (t.length : Int)) = true := decide_eq_true ⟨by omega, by omega⟩
       have hin : t.getD (j + 1) z ∈ t.take (i + 1) := by
        rw [List.getD_eq_getElem?_getD, List.getElem?_eq_getElem (by omega)]
        have : (t.take (i + 1))[j + 1]? = some t[j + 1] := by rw [List.getElem?_take_of_lt (by omega), List.getElem?_eq_getElem (by omega)]
        exact List.mem_of_getElem? this
       refine ⟨hjx, by kernel_rfl, by kernel_rfl, ?_⟩
       refine vbr (fun q1 => ?_) (fun q1 => ?_) <;> simp only [wq, simprocAttr]
       ·refine ⟨hjx, by kernel_rfl, by kernel_rfl, ?_⟩
        refine hK _ ?_
        clear hK K
        try refine vthen_n ?_
        repeat refine VW.seq ?_
        refine VW.cond rfl (fun hc => ?_) (fun hc => ?_)
        ·repeat refine VW.seq ?_
         refine VW.regl hT fun K hK => ?_
         simp only [wq, simprocAttr]
         refine hK _ ?_
         clear hK K
         try refine vthen_n ?_
         refine VW.ret ⟨.inl rfl, _, rfl, ?_⟩
         have q2 : ((t.getD (j + 1) z).2.1 == n.2.1) = true := hc
         have q1' : ((t.getD (j + 1) z).1 == n.1) = true := q1
         have : (t.take (i + 1)).any (same n) = true := by
          rw [List.any_eq_true]
          exact ⟨_, hin, by simp only [same, q1', q2, Bool.and_self]⟩
         rw [treeOk_false hlt ((ex false hb1).trans this)]
        ·refine VW.skip ?_
         show vthen _ _ _ .normal _
         refine vthen_n ?_
         repeat refine VW.seq ?_
         refine VW.regl hT fun K hK => ?_
         simp only [wq, simprocAttr]
         refine hK _ ?_
         clear hK K
         try refine vthen_n ?_
         refine ⟨j + 1, ⟨by omega, fun k hk' => ?_⟩, ?_, by show t.length - (j + 1) < t.length - j; omega⟩
         ·rcases Nat.lt_or_ge k (j + 1) with h3 | h3
          ·exact hjk k h3
          ·obtain rfl : k = j + 1 := by omega
           have q2 : ((t.getD (j + 1) z).2.1 == n.2.1) = false := hc
           simp only [same, q2, Bool.and_false]
         ·simp only [wn, wq, simprocAttr]
          rw [wrap64 (by omega) (by omega)]
          rfl
       ·refine hK _ ?_
        clear hK K
        try refine vthen_n ?_
        repeat refine VW.seq ?_
        refine VW.cond rfl (fun hc => ?_) (fun hc => ?_)
        ·cases hc
        ·refine VW.skip ?_
         show vthen _ _ _ .normal _
         refine vthen_n ?_
         repeat refine VW.seq ?_
         refine VW.regl hT fun K hK => ?_
         simp only [wq, simprocAttr]
         refine hK _ ?_
         clear hK K
         try refine vthen_n ?_
         refine ⟨j + 1, ⟨by omega, fun k hk' => ?_⟩, ?_, by show t.length - (j + 1) < t.length - j; omega⟩
         ·rcases Nat.lt_or_ge k (j + 1) with h3 | h3
          ·exact hjk k h3
          ·obtain rfl : k = j + 1 := by omega
           have q1' : ((t.getD (j + 1) z).1 == n.1) = false := q1
           simp only [same, q1', Bool.false_and]
         ·simp only [wn, wq, simprocAttr]
          rw [wrap64 (by omega) (by omega)]
          rfl
      ·have hje : j = i := by
        have : ¬ ((j + 1 : Nat) : Int) < ((i + 1 : Nat) : Int) := by simpa using hc
        omega
       subst hje
       have hno : (t.take (j + 1)).any (same n) = false := by
        rw [List.any_eq_false]
        intro x hx
        obtain ⟨k, hk1, rfl⟩ := List.mem_iff_getElem.1 hx
        have h3 := hjk k (by rw [List.length_take] at hk1; omega)
        rw [List.getD_eq_getElem?_getD, List.getElem?_eq_getElem (by rw [List.length_take] at hk1; omega)] at h3
        simpa using h3
       refine VW.exit ?_
       show vthen _ _ _ .normal _
       refine vthen_n ?_
       repeat refine VW.seq ?_
       refine VW.regl hT fun K hK => ?_
       simp only [wq, simprocAttr]
       refine hK _ ?_
       clear hK K
       try refine vthen_n ?_
       refine ⟨j + 1, ⟨by omega, fun k h => ?_⟩, ?_, by show t.length - (j + 1) < t.length - j; omega⟩
       ·rcases Nat.lt_or_ge k j with h3 | h3
        ·exact hk k h3
        ·obtain rfl : k = j := by omega
         exact (ex false hb1).trans hno
       ·simp only [wn, wq, simprocAttr]
        rw [wrap64 (by omega) (by omega)]
        rfl
    ·refine hK _ ?_
     clear hK K
     try refine vthen_n ?_
     repeat refine VW.seq ?_
     refine VW.cond rfl (fun hc => ?_) (fun hc => ?_)
     ·repeat refine VW.seq ?_
      refine VW.regl hT fun K hK => ?_
      simp only [wq, simprocAttr]
      refine hK _ ?_
      clear hK K
      try refine vthen_n ?_
      refine VW.ret ⟨.inl rfl, _, rfl, ?_⟩
      have g3' : inB n.2.1 0 3 = false := by simpa using g3
      rw [treeOk_false hlt ((ex true (by simp only [bad1, g3', Bool.not_false, Bool.true_or, Bool.or_true])).trans rfl)]
     ·cases hc
   ·refine hK _ ?_
    clear hK K
    try refine vthen_n ?_
    repeat refine VW.seq ?_
    refine VW.cond rfl (fun hc => ?_) (fun hc => ?_)
    ·repeat refine VW.seq ?_
     refine VW.regl hT fun K hK => ?_
     simp only [wq, simprocAttr]
     refine hK _ ?_
     clear hK K
     try refine vthen_n ?_
     refine VW.ret ⟨.inl rfl, _, rfl, ?_⟩
     have g2' : ((t.getD n.1.toNat z).2.2 == 0) = false := by simpa using g2
     rw [treeOk_false hlt ((ex true (by simp only [bad1, g2', Bool.not_false, Bool.true_or, Bool.or_true])).trans rfl)]
    ·cases hc
  ·refine hK _ ?_
   clear hK K
   try refine vthen_n ?_
   repeat refine VW.seq ?_
   refine VW.cond rfl (fun hc => ?_) (fun hc => ?_)
   ·repeat refine VW.seq ?_
    refine VW.regl hT fun K hK => ?_
    simp only [wq, simprocAttr]
    refine hK _ ?_
    clear hK K
    try refine vthen_n ?_
    refine VW.ret ⟨.inl rfl, _, rfl, ?_⟩
    have g1' : inB n.1 0 i = false := by simpa using g1
    rw [treeOk_false hlt ((ex true (by simp only [bad1, g1', Bool.not_false, Bool.true_or])).trans rfl)]
   ·cases hc
 ·have hge : t.length ≤ i + 1 := by
   have : ¬ ((i + 1 : Nat) : Int) < (t.length : Int) := by simpa using hc
   omega
  refine VW.exit ?_
  show vthen _ _ _ .normal _
  refine vthen_n ?_
  repeat refine VW.seq ?_
  refine VW.regl hT fun K hK => ?_
  simp only [wq, simprocAttr]
  refine hK _ ?_
  clear hK K
  try refine vthen_n ?_
  refine VW.ret ⟨.inl rfl, _, rfl, ?_⟩
  rw [treeOk_true h1 h2 fun k hk' => hk k (by omega)]
end Go.Proofs.YtoeblmcibheldaaGreatDoor.V.W
end
section
namespace Go.Proofs.YtoeblmcibheldaaGreatDoor.V.W
open Go Go.RowKit
/-- the library's counting of ones, step by step -/
def an (x c : Int) : Int := IntKind.u64.wrap (BitVec.ofInt IntKind.u64.bits x &&& BitVec.ofInt IntKind.u64.bits c).toNat
def shr (x : Int) (k : Nat) : Int := x.fdiv (2 ^ min k IntKind.u64.bits)
def ad (x y : Int) : Int := IntKind.u64.wrap (x + y)
def pop1 (x : Int) : Int := ad (an (shr x 1) 6148914691236517205) (an x 6148914691236517205)
def pop2 (x : Int) : Int := ad (an (shr x 2) 3689348814741910323) (an x 3689348814741910323)
def pop3 (x : Int) : Int := an (ad (shr x 4) x) 1085102592571150095
def pop4 (x : Int) : Int := ad x (shr x 8)
def pop5 (x : Int) : Int := ad x (shr x 16)
def pop6 (x : Int) : Int := ad x (shr x 32)
def pop7 (x : Int) : Int := IntKind.i64.wrap (BitVec.ofInt IntKind.i64.bits (IntKind.i64.wrap x) &&& BitVec.ofInt IntKind.i64.bits 127).toNat
def popc (x : Int) : Int := pop7 (pop6 (pop5 (pop4 (pop3 (pop2 (pop1 x))))))
set_option maxRecDepth 20000 in
theorem ones64_vc (n : Int) : VC Tryz.prog 212 [.v false (.int .u64) n] (· = .v false (.int .i64) (popc n)) := by
 refine VC.of_body hT Tryz.func212 rfl (by kernel_rfl) [(.tmp 2, false, .int .i64)] (by kernel_rfl) ?_
 show VW _ _ ([.v false (.int .u64) n, D, D, D, D, D, D, D, D, D, D, D, D, D, D, D, D, D, D, D, D, D, D, D, D, D, D, D, D, D, D, D, D, D, D]) _
 repeat refine VW.seq ?_
 refine VW.regl hT fun K hK => ?_
 simp only [wq, Nat.reduceMul, reduceCtorEq, Nat.reduceBEq, Nat.reduceAdd, Nat.reduceLT, Nat.reduceLeDiff, Nat.reduceSub, Nat.reduceEqDiff]
 refine hK _ ?_
 clear hK K
 try refine vthen_n ?_
 repeat refine VW.seq ?_
 refine VW.regl hT fun K hK => ?_
 simp only [wq, Nat.reduceMul, reduceCtorEq, Nat.reduceBEq, Nat.reduceAdd, Nat.reduceLT, Nat.reduceLeDiff, Nat.reduceSub, Nat.reduceEqDiff]
 refine ⟨by decide, ?_⟩
 refine hK _ ?_
 clear hK K
 try refine vthen_n ?_
 refine VW.weak (weak_norm [(0, none), (2, none)] _) ?_
 simp only [wn, wq, Nat.reduceMul, reduceCtorEq, Nat.reduceBEq, Nat.reduceAdd, Nat.reduceLT, Nat.reduceLeDiff, Nat.reduceSub, Nat.reduceEqDiff]
 show VW _ _ (.v false (.int .u64) (pop1 n) :: _) _
 generalize hx1 : pop1 n = x1
 repeat refine VW.seq ?_
 refine VW.regl hT fun K hK => ?_
 simp only [wq, Nat.reduceMul, reduceCtorEq, Nat.reduceBEq, Nat.reduceAdd, Nat.reduceLT, Nat.reduceLeDiff, Nat.reduceSub, Nat.reduceEqDiff]
 refine ⟨by decide, ?_⟩
 refine hK _ ?_
 clear hK K
 try refine vthen_n ?_
 refine VW.weak (weak_norm [(0, none), (2, none)] _) ?_
 simp only [wn, wq, Nat.reduceMul, reduceCtorEq, Nat.reduceBEq, Nat.reduceAdd, Nat.reduceLT, Nat.reduceLeDiff, Nat.reduceSub, Nat.reduceEqDiff]
 show VW _ _ (.v false (.int .u64) (pop2 x1) :: _) _
 generalize hx2 : pop2 x1 = x2
 repeat refine VW.seq ?_
 refine VW.regl hT fun K hK => ?_
 simp only [wq, Nat.reduceMul, reduceCtorEq, Nat.reduceBEq, Nat.reduceAdd, Nat.reduceLT, Nat.reduceLeDiff, Nat.reduceSub, Nat.reduceEqDiff]
 refine ⟨by decide, ?_⟩
 refine hK _ ?_
 clear hK K
 try refine vthen_n ?_
 refine VW.weak (weak_norm [(0, none), (2, none)] _) ?_
 simp only [wn, wq, Nat.reduceMul, reduceCtorEq, Nat.reduceBEq, Nat.reduceAdd, Nat.reduceLT, Nat.reduceLeDiff, Nat.reduceSub, Nat.reduceEqDiff]
 show VW _ _ (.v false (.int .u64) (pop3 x2) :: _) _
 generalize hx3 : pop3 x2 = x3
 repeat refine VW.seq ?_
 refine VW.regl hT fun K hK => ?_
 simp only [wq, Nat.reduceMul, reduceCtorEq, Nat.reduceBEq, Nat.reduceAdd, Nat.reduceLT, Nat.reduceLeDiff, Nat.reduceSub, Nat.reduceEqDiff]
 refine ⟨by decide, ?_⟩
 refine hK _ ?_
 clear hK K
 try refine vthen_n ?_
 refine VW.weak (weak_norm [(0, none), (2, none)] _) ?_
 simp only [wn, wq, Nat.reduceMul, reduceCtorEq, Nat.reduceBEq, Nat.reduceAdd, Nat.reduceLT, Nat.reduceLeDiff, Nat.reduceSub, Nat.reduceEqDiff]
 show VW _ _ (.v false (.int .u64) (pop4 x3) :: _) _
 generalize hx4 : pop4 x3 = x4
 repeat refine VW.seq ?_
 refine VW.regl hT fun K hK => ?_
 simp only [wq, Nat.reduceMul, reduceCtorEq, Nat.reduceBEq, Nat.reduceAdd, Nat.reduceLT, Nat.reduceLeDiff, Nat.reduceSub, Nat.reduceEqDiff]
 refine ⟨by decide, ?_⟩
 refine hK _ ?_
 clear hK K
 try refine vthen_n ?_
 refine VW.weak (weak_norm [(0, none), (2, none)] _) ?_
 simp only [wn, wq, Nat.reduceMul, reduceCtorEq, Nat.reduceBEq, Nat.reduceAdd, Nat.reduceLT, Nat.reduceLeDiff, Nat.reduceSub, Nat.reduceEqDiff]
 show VW _ _ (.v false (.int .u64) (pop5 x4) :: _) _
 generalize hx5 : pop5 x4 = x5
 repeat refine VW.seq ?_
 refine VW.regl hT fun K hK => ?_
 simp only [wq, Nat.reduceMul, reduceCtorEq, Nat.reduceBEq, Nat.reduceAdd, Nat.reduceLT, Nat.reduceLeDiff, Nat.reduceSub, Nat.reduceEqDiff]
 refine ⟨by decide, ?_⟩
 refine hK _ ?_
 clear hK K
 try refine vthen_n ?_
 refine VW.weak (weak_norm [(0, none), (2, none)] _) ?_
 simp only [wn, wq, Nat.reduceMul, reduceCtorEq, Nat.reduceBEq, Nat.reduceAdd, Nat.reduceLT, Nat.reduceLeDiff, Nat.reduceSub, Nat.reduceEqDiff]
 show VW _ _ (.v false (.int .u64) (pop6 x5) :: _) _
 generalize hx6 : pop6 x5 = x6
 repeat refine VW.seq ?_
 refine VW.regl hT fun K hK => ?_
 simp only [wq, Nat.reduceMul, reduceCtorEq, Nat.reduceBEq, Nat.reduceAdd, Nat.reduceLT, Nat.reduceLeDiff, Nat.reduceSub, Nat.reduceEqDiff]
 refine hK _ ?_
 clear hK K
 try refine vthen_n ?_
 refine VW.ret ⟨.inl rfl, _, rfl, ?_⟩
 subst hx1 hx2 hx3 hx4 hx5 hx6
 rfl
theorem ones_vc (n : Int) : VC Tryz.prog 181 [.v false (.int .u64) n] (· = .v false (.int .i64) (popc n)) := by
 refine VC.of_body hT Tryz.func181 rfl (by kernel_rfl) [(.tmp 2, false, .int .i64)] (by kernel_rfl) ?_
 show VW _ _ ([.v false (.int .u64) n, D, D, D, D, D, D, D]) _
 repeat refine VW.seq ?_
 refine VW.regl hT fun K hK => ?_
 simp only [wq, simprocAttr]
 refine hK _ ?_
 clear hK K
 try refine vthen_n ?_
 repeat refine VW.seq ?_
 refine VW.cond rfl (fun hc => ?_) (fun hc => ?_)
 ·cases hc
 refine VW.skip (vthen_n ?_)
 repeat refine VW.seq ?_
 refine VW.regl hT fun K hK => ?_
 simp only [wq, simprocAttr]
 refine vcall_of (ones64_vc n) ?_
 simp only [wq, simprocAttr]
 refine hK _ ?_
 clear hK K
 try refine vthen_n ?_
 exact VW.ret ⟨.inl rfl, _, rfl, rfl⟩
/-- a size that is a power of two -/
def pw (n : Int) : Bool := n == 16 || n == 32 || n == 64 || n == 128 || n == 256 || n == 512 || n == 1024 || n == 2048 || n == 4096
theorem pop_all : ((List.range 4097).all fun n => decide (n < 16) || ((popc (n : Int) == 1) == pw (n : Int))) = true := by kernel_rfl
theorem pop_pw {n : Int} (h1 : 16 ≤ n) (h2 : n ≤ 4096) : (popc n == 1) = pw n := by
 have := List.all_eq_true.1 pop_all n.toNat (List.mem_range.2 (by omega))
 rw [show ((n.toNat : Nat) : Int) = n by omega, decide_eq_false (by omega), Bool.false_or, beq_iff_eq] at this
 exact this
theorem isPower_vc (n : Int) : VC Tryz.prog 156 [.v false (.int .i64) (n)] (fun pv => ∃ b : Bool, pv = .v false .bool (b) ∧ (16 ≤ n → n ≤ 4096 → b = pw n)) := by
 refine VC.of_body hT Tryz.func156 rfl (by kernel_rfl) [(.tmp 2, false, .bool)] (by kernel_rfl) ?_
 show VW _ _ ([.v false (.int .i64) (n), D, D, D, D, D, D, D, D, D, D]) _
 repeat refine VW.seq ?_
 refine VW.regl hT fun K hK => ?_
 simp only [wq, simprocAttr]
 refine hK _ ?_
 clear hK K
 try refine vthen_n ?_
 repeat refine VW.seq ?_
 refine VW.regl hT fun K hK => ?_
 simp only [wq, simprocAttr]
 refine vcall_of (within_vc n 1 1048576) ?_
 simp only [wq, simprocAttr]
 refine vbr (fun h => ?_) (fun h => ?_) <;> simp only [wq, simprocAttr]
 ·have hin := inB_iff.1 h
  have hw : IntKind.u64.wrap n = n := by simp [IntKind.wrap, IntKind.bits, IntKind.signed]; omega
  rw [hw]
  refine vcall_of (ones_vc n) ?_
  simp only [wq, simprocAttr]
  refine hK _ ?_
  clear hK K
  try refine vthen_n ?_
  exact VW.ret ⟨.inl rfl, _, rfl, _, rfl, fun h1 h2 => pop_pw h1 h2⟩
 ·refine hK _ ?_
  clear hK K
  try refine vthen_n ?_
  refine VW.ret ⟨.inl rfl, _, rfl, _, rfl, fun h1 h2 => ?_⟩
  rw [inB_iff.2 (by omega)] at h
  cases h
end Go.Proofs.YtoeblmcibheldaaGreatDoor.V.W
end
section
namespace Go.Proofs.YtoeblmcibheldaaGreatDoor.V.W
open Go Go.RowKit
theorem pw_in {n : Int} (h : pw n = true) : 16 ≤ n ∧ n ≤ 4096 := by
 simp only [pw, Bool.or_eq_true, beq_iff_eq] at h
 omega
/-- a size that does not fit -/
def sizeBad (t : List Nd) (s : List Int) (k : Nat) : Bool := !(s.getD k 0 == 0) && ((t.getD k z).2.2 == 0 || !pw (s.getD k 0))
def sizesOk (t : List Nd) (s : List Int) : Bool := treeOk t && ((s.length == t.length) && (List.range t.length).all fun k => !sizeBad t s k)
theorem sizesOk_false {t : List Nd} {s : List Int} {k : Nat} (hk : k < t.length) (h : sizeBad t s k = true) : sizesOk t s = false := by
 have : ((List.range t.length).all fun k => !sizeBad t s k) = false := by
  rw [List.all_eq_false]
  exact ⟨k, List.mem_range.2 hk, by rw [h]; simp⟩
 rw [sizesOk, this, Bool.and_false, Bool.and_false]
theorem sizesOk_iff {t : List Nd} {s : List Int} : sizesOk t s = true ↔ treeOk t = true ∧ s.length = t.length ∧ ∀ k, k < t.length → sizeBad t s k = false := by
 unfold sizesOk
 rw [Bool.and_eq_true, Bool.and_eq_true, beq_iff_eq, List.all_eq_true]
 refine and_congr Iff.rfl (and_congr Iff.rfl ⟨fun h k hk => ?_, fun h k hk => ?_⟩)
 ·have := h k (List.mem_range.2 hk)
  simpa using this
 ·rw [h k (List.mem_range.1 hk)]; rfl
theorem lenEq {a b : Nat} : ((a : Int) == (b : Int)) = (a == b) := by
 rw [Bool.eq_iff_iff, beq_iff_eq, beq_iff_eq]; omega
set_option maxRecDepth 20000 in
theorem sizesOk_vc (t : List Nd) (s : List Int) (hl : t.length ≤ 2000000) (hs : s.length ≤ 2000000) : VC Tryz.prog 121 [.v false sNS t, .v false sI s] (· = .v false .bool (sizesOk t s)) := by
 refine VC.of_body hT Tryz.func121 rfl (by kernel_rfl) [(.tmp 4, false, .bool)] (by kernel_rfl) ?_
 show VW _ _ ([.v false sNS t, .v false sI s, D, D, D, D, D, D, D, D, D, D, D, D, D, D, D, D, D, D, D, D, D, D, D, D, D, D, D, D, D, D, D, D, D, D, D, D, D, D, D, D]) _
 repeat refine VW.seq ?_
 refine VW.regl hT fun K hK => ?_
 simp only [wq, simprocAttr]
 refine hK _ ?_
 clear hK K
 try refine vthen_n ?_
 repeat refine VW.seq ?_
 refine VW.regl hT fun K hK => ?_
 simp only [wq, simprocAttr]
 refine vcall_of (treeOk_vc t hl) ?_
 simp only [wq, simprocAttr]
 refine vbr (fun h => ?_) (fun h => ?_) <;> simp only [wq, simprocAttr]
 case refine_2 =>
  refine hK _ ?_
  clear hK K
  try refine vthen_n ?_
  repeat refine VW.seq ?_
  refine VW.cond rfl (fun hc => ?_) (fun hc => ?_)
  ·repeat refine VW.seq ?_
   refine VW.regl hT fun K hK => ?_
   simp only [wq, simprocAttr]
   refine hK _ ?_
   clear hK K
   try refine vthen_n ?_
   refine VW.ret ⟨.inl rfl, _, rfl, ?_⟩
   have h' : treeOk t = false := (Bool.not_eq_true' _).mp h
   rw [sizesOk, h', Bool.false_and]
  ·cases hc
 have hok : treeOk t = true := by
  have := h
  rwa [Bool.not_eq_false'] at this
 have htl := treeOk_len hok
 refine hK _ ?_
 clear hK K
 try refine vthen_n ?_
 rw [lenEq]
 repeat refine VW.seq ?_
 refine VW.cond rfl (fun hc => ?_) (fun hc => ?_)
 ·repeat refine VW.seq ?_
  refine VW.regl hT fun K hK => ?_
  simp only [wq, simprocAttr]
  refine hK _ ?_
  clear hK K
  try refine vthen_n ?_
  refine VW.ret ⟨.inl rfl, _, rfl, ?_⟩
  have h' : (s.length == t.length) = false := (Bool.not_eq_true' _).mp hc
  rw [sizesOk, h', Bool.false_and, Bool.and_false]
 have hsl : s.length = t.length := by simpa using hc
 refine VW.skip (vthen_n ?_)
 repeat refine VW.seq ?_
 refine VW.regl hT fun K hK => ?_
 simp only [wq, simprocAttr]
 refine hK _ ?_
 clear hK K
 try refine vthen_n ?_
 repeat refine VW.seq ?_
 refine VW.block ?_
 refine VW.loop (α := Nat) [(0, none), (17, none), (18, none), (19, none)] (fun i => [.v false sNS t, D, D, D, D, D, D, D, D, D, D, D, D, D, D, D, D, .v false sI s, .v false (.int .i64) (s.length), .v false (.int .i64) (i), D, D, D, D, D, D, D, D, D, D, D, D, D, D, D, D, D, D, D, D, D, D]) (fun i => i ≤ s.length ∧ ∀ k, k < i → sizeBad t s k = false) (fun i => s.length - i) ⟨0, ⟨by omega, fun k hk => by omega⟩, ?_⟩ fun i ⟨hi, hk⟩ => ?_
 ·simp only [wn, wq, simprocAttr]
  try rfl
 repeat refine VW.seq ?_
 refine VW.regl hT fun K hK => ?_
 simp only [wq, simprocAttr]
 refine hK _ ?_
 clear hK K
 try refine vthen_n ?_
 repeat refine VW.seq ?_
 refine VW.cond rfl (fun hc => ?_) (fun hc => ?_)
 ·have hlt : i < s.length := by simpa using hc
  refine VW.skip (vthen_n ?_)
  repeat refine VW.seq ?_
  refine VW.block ?_
  repeat refine VW.seq ?_
  refine VW.regl hT fun K hK => ?_
  simp only [wq, simprocAttr]
  refine ⟨decide_eq_true ⟨Int.natCast_nonneg _, by show (i : Int) < (s.length : Int); omega⟩, ?_⟩
  refine hK _ ?_
  clear hK K
  try refine vthen_n ?_
  apply cutl
  ·intro tail
   repeat refine VW.seq ?_
   refine VW.regl hT fun K hK => ?_
   simp only [wq, simprocAttr]
   refine vbr (fun g => ?_) (fun g => ?_) <;> simp only [wq, simprocAttr]
   case refine_2 =>
    refine hK _ ?_
    try refine vthen_n ?_
    refine VW.cond rfl (fun hc => by cases hc) (fun hc => ?_)
    refine VW.skip ?_
    show vthen _ _ _ .normal _
    refine vthen_n ?_
    refine VW.weak (weak_norm [(0, none), (17, none), (18, none), (19, none)] _) ?_
    simp only [wn, wq, simprocAttr]
    have hb : sizeBad t s i = false := by
     have g2 : (!(s.getD i 0 == 0)) = false := g
     rw [sizeBad, g2, Bool.false_and]
    revert hb
    exact tail.h
   have g2 : (!(s.getD i 0 == 0)) = true := g
   have bad : ((t.getD i z).2.2 == 0 || !pw (s.getD i 0)) = true → sizesOk t s = false := fun h => sizesOk_false (k := i) (by omega) (by rw [sizeBad, g2, h]; rfl)
   refine vcall_of (isBridge_vc t i (by omega) (by omega)) ?_
   simp only [wq, simprocAttr]
   refine vbr (fun g3 => ?_) (fun g3 => ?_) <;> simp only [wq, simprocAttr]
   case refine_2 =>
    refine hK _ ?_
    try refine vthen_n ?_
    refine VW.cond rfl (fun hc => ?_) (fun hc => by cases hc)
    repeat refine VW.seq ?_
    refine VW.regl hT fun K hK => ?_
    simp only [wq, simprocAttr]
    refine hK _ ?_
    clear hK K
    try refine vthen_n ?_
    refine VW.ret ⟨.inl rfl, _, rfl, ?_⟩
    rw [bad (by rw [show ((t.getD i z).2.2 == 0) = true from g3]; rfl)]
   have g3 : ((t.getD i z).2.2 == 0) = false := g3
   refine vcall_ex (isPower_vc _) ?_
   rintro pv ⟨b, rfl, hb⟩
   simp only [wq, simprocAttr]
   refine vbr (fun g4 => ?_) (fun g4 => ?_) <;> simp only [wq, simprocAttr]
   case refine_2 =>
    refine hK _ ?_
    try refine vthen_n ?_
    refine VW.cond rfl (fun hc => ?_) (fun hc => by cases hc)
    repeat refine VW.seq ?_
    refine VW.regl hT fun K hK => ?_
    simp only [wq, simprocAttr]
    refine hK _ ?_
    clear hK K
    try refine vthen_n ?_
    refine VW.ret ⟨.inl rfl, _, rfl, ?_⟩
    have g4 : b = false := by simpa using g4
    have : pw (s.getD i 0) = false := by
     rw [← Bool.not_eq_true]
     intro h
     have h2 := pw_in h
     have h3 := hb h2.1 h2.2
     rw [g4, h] at h3
     cases h3
    rw [bad (by rw [this]; simp)]
   have g4 : b = true := by simpa using g4
   refine vcall_of (within_vc _ 16 4096) ?_
   simp only [wq, simprocAttr]
   refine hK _ ?_
   try refine vthen_n ?_
   refine VW.cond rfl (fun hc => ?_) (fun hc => ?_)
   ·repeat refine VW.seq ?_
    refine VW.regl hT fun K hK => ?_
    simp only [wq, simprocAttr]
    refine hK _ ?_
    clear hK K
    try refine vthen_n ?_
    refine VW.ret ⟨.inl rfl, _, rfl, ?_⟩
    have hc : inB (s.getD i 0) 16 4096 = false := (Bool.not_eq_true' _).mp hc
    have : pw (s.getD i 0) = false := by
     rw [← Bool.not_eq_true]
     intro h
     rw [inB_iff.2 (pw_in h)] at hc
     cases hc
    rw [bad (by rw [this]; simp)]
   ·refine VW.skip ?_
    show vthen _ _ _ .normal _
    refine vthen_n ?_
    refine VW.weak (weak_norm [(0, none), (17, none), (18, none), (19, none)] _) ?_
    simp only [wn, wq, simprocAttr]
    have hb : sizeBad t s i = false := by
     have hc : inB (s.getD i 0) 16 4096 = true := by
      have := hc
      rwa [Bool.not_eq_false'] at this
     have h2 := inB_iff.1 hc
     have h3 := hb h2.1 h2.2
     rw [g4] at h3
     rw [sizeBad, g3, ← h3]
     simp
    revert hb
    exact tail.h
  ·intro hb
   repeat refine VW.seq ?_
   refine VW.regl hT fun K hK => ?_
   simp only [wq, simprocAttr]
   refine hK _ ?_
   clear hK K
   try refine vthen_n ?_
   refine ⟨i + 1, ⟨hlt, fun k h => ?_⟩, ?_, by show s.length - (i + 1) < s.length - i; omega⟩
   ·rcases Nat.lt_or_ge k i with h1 | h1
    ·exact hk k h1
    ·obtain rfl : k = i := by omega
     exact hb
   ·simp only [wn, wq, simprocAttr]
    rw [wrap64 (by omega) (by omega)]
    rfl
 ·have hge : s.length ≤ i := by simpa using hc
  refine VW.exit ?_
  show vthen _ _ _ .normal _
  refine vthen_n ?_
  repeat refine VW.seq ?_
  refine VW.regl hT fun K hK => ?_
  simp only [wq, simprocAttr]
  refine hK _ ?_
  clear hK K
  try refine vthen_n ?_
  refine VW.ret ⟨.inl rfl, _, rfl, ?_⟩
  rw [sizesOk_iff.2 ⟨hok, hsl, fun k hk' => hk k (by omega)⟩]
end Go.Proofs.YtoeblmcibheldaaGreatDoor.V.W
end
section
namespace Go.Proofs.YtoeblmcibheldaaGreatDoor.V.W
open Go Go.RowKit
theorem pow_pw : ((List.range 21).all fun i => decide ((2 ^ i : Nat) < 16) || decide ((2 ^ i : Nat) > 4096) || pw ((2 ^ i : Nat) : Int)) = true := by decide
theorem pow_pw' {i : Nat} (hi : i < 21) (h1 : (16 : Int) ≤ ((2 ^ i : Nat) : Int)) (h2 : ((2 ^ i : Nat) : Int) ≤ 4096) : pw ((2 ^ i : Nat) : Int) = true := by
 have := List.all_eq_true.1 pow_pw i (List.mem_range.2 hi)
 rw [decide_eq_false (by omega), decide_eq_false (by omega)] at this
 simpa using this
theorem pw_pow {n : Int} (h : pw n = true) : ∃ i : Nat, i < 21 ∧ n = ((2 ^ i : Nat) : Int) := by
 simp only [pw, Bool.or_eq_true, beq_iff_eq] at h
 rcases h with (((((((h | h) | h) | h) | h) | h) | h) | h) | h
 ·exact ⟨4, by omega, h⟩
 ·exact ⟨5, by omega, h⟩
 ·exact ⟨6, by omega, h⟩
 ·exact ⟨7, by omega, h⟩
 ·exact ⟨8, by omega, h⟩
 ·exact ⟨9, by omega, h⟩
 ·exact ⟨10, by omega, h⟩
 ·exact ⟨11, by omega, h⟩
 ·exact ⟨12, by omega, h⟩
theorem specPower_vc (n : Int) : VC Tryz.prog 179 [.v false (.int .i64) (n)] (fun pv => ∃ b : Bool, pv = .v false .bool (b) ∧ (16 ≤ n → n ≤ 4096 → b = pw n)) := by
 refine VC.of_body hT Tryz.func179 rfl (by kernel_rfl) [(.tmp 2, false, .bool)] (by kernel_rfl) ?_
 show VW _ _ ([.v false (.int .i64) (n), D, D, D, D, D, D, D, D, D, D, D]) _
 repeat refine VW.seq ?_
 refine VW.regl hT fun K hK => ?_
 simp only [wq, simprocAttr]
 refine hK _ ?_
 clear hK K
 try refine vthen_n ?_
 repeat refine VW.seq ?_
 refine VW.regl hT fun K hK => ?_
 simp only [wq, simprocAttr]
 refine hK _ ?_
 clear hK K
 try refine vthen_n ?_
 repeat refine VW.seq ?_
 refine VW.block ?_
 refine VW.loop (α := Nat) [(0, none), (3, none)] (fun i => [.v false (.int .i64) (n), D, D, .v false (.int .i64) (i), D, D, D, D, D, D, D, D]) (fun i => i ≤ 21 ∧ ∀ j, j < i → n ≠ ((2 ^ j : Nat) : Int)) (fun i => 21 - i) ⟨0, ⟨by omega, fun j hj => by omega⟩, ?_⟩ fun i ⟨hi, hj⟩ => ?_
 ·simp only [wn, wq, simprocAttr]
  try rfl
 repeat refine VW.seq ?_
 refine VW.regl hT fun K hK => ?_
 simp only [wq, simprocAttr]
 refine hK _ ?_
 clear hK K
 try refine vthen_n ?_
 repeat refine VW.seq ?_
 refine VW.cond rfl (fun hc => ?_) (fun hc => ?_)
 ·have hlt : i < 21 := by
   have : (i : Int) ≤ 20 := of_decide_eq_true hc
   omega
  refine VW.skip (vthen_n ?_)
  repeat refine VW.seq ?_
  refine VW.block ?_
  repeat refine VW.seq ?_
  refine VW.regl hT fun K hK => ?_
  simp only [wq, simprocAttr]
  have hle : (2 ^ i : Nat) ≤ 2 ^ 20 := Nat.pow_le_pow_right (by decide) (by omega)
  have hw : IntKind.i64.wrap (1 * 2 ^ min i IntKind.i64.bits) = ((2 ^ i : Nat) : Int) := by
   rw [show min i IntKind.i64.bits = i from Nat.min_eq_left (by show i ≤ 64; omega), Int.one_mul, show (2 : Int) ^ i = ((2 ^ i : Nat) : Int) by simp]
   generalize (2 ^ i : Nat) = p at hle ⊢
   exact wrap64 (by omega) (by omega)
  rw [hw]
  refine ⟨decide_eq_true (Int.natCast_nonneg _), ?_⟩
  refine hK _ ?_
  clear hK K
  try refine vthen_n ?_
  repeat refine VW.seq ?_
  refine VW.cond rfl (fun hc => ?_) (fun hc => ?_)
  ·repeat refine VW.seq ?_
   refine VW.regl hT fun K hK => ?_
   simp only [wq, simprocAttr]
   refine hK _ ?_
   clear hK K
   try refine vthen_n ?_
   refine VW.ret ⟨.inl rfl, _, rfl, _, rfl, fun h1 h2 => ?_⟩
   have e : n = ((2 ^ i : Nat) : Int) := by simpa using hc
   show true = pw n
   rw [e] at h1 h2 ⊢
   exact (pow_pw' hlt h1 h2).symm
  ·refine VW.skip ?_
   show vthen _ _ _ .normal _
   refine vthen_n ?_
   repeat refine VW.seq ?_
   refine VW.regl hT fun K hK => ?_
   simp only [wq, simprocAttr]
   refine hK _ ?_
   clear hK K
   try refine vthen_n ?_
   refine ⟨i + 1, ⟨by omega, fun j h => ?_⟩, ?_, by show 21 - (i + 1) < 21 - i; omega⟩
   ·rcases Nat.lt_or_ge j i with h1 | h1
    ·exact hj j h1
    ·obtain rfl : j = i := by omega
     simpa using hc
   ·simp only [wn, wq, simprocAttr]
    rw [wrap64 (by omega) (by omega)]
    rfl
 ·have hge : i = 21 := by
   have : ¬ (i : Int) ≤ 20 := of_decide_eq_false hc
   omega
  refine VW.exit ?_
  show vthen _ _ _ .normal _
  refine vthen_n ?_
  repeat refine VW.seq ?_
  refine VW.regl hT fun K hK => ?_
  simp only [wq, simprocAttr]
  refine hK _ ?_
  clear hK K
  try refine vthen_n ?_
  refine VW.ret ⟨.inl rfl, _, rfl, _, rfl, fun h1 h2 => ?_⟩
  symm
  show pw n = false
  rw [← Bool.not_eq_true]
  intro h
  obtain ⟨j, hj2, hj3⟩ := pw_pow h
  exact hj j (by omega) hj3
set_option maxRecDepth 20000 in
theorem specSizes_vc (t : List Nd) (s : List Int) (hl : t.length ≤ 2000000) (hs : s.length ≤ 2000000) : VC Tryz.prog 151 [.v false sNS t, .v false sI s] (· = .v false .bool (sizesOk t s)) := by
 refine VC.of_body hT Tryz.func151 rfl (by kernel_rfl) [(.tmp 4, false, .bool)] (by kernel_rfl) ?_
 show VW _ _ ([.v false sNS t, .v false sI s, D, D, D, D, D, D, D, D, D, D, D, D, D, D, D, D, D, D, D, D, D, D, D, D, D, D, D, D, D, D, D, D, D, D, D, D, D, D, D, D, D, D, D, D, D, D, D, D, D]) _
 repeat refine VW.seq ?_
 refine VW.regl hT fun K hK => ?_
 simp only [wq, simprocAttr]
 refine hK _ ?_
 clear hK K
 try refine vthen_n ?_
 repeat refine VW.seq ?_
 refine VW.regl hT fun K hK => ?_
 simp only [wq, simprocAttr]
 refine vcall_of (specTreeOk_vc t hl) ?_
 simp only [wq, simprocAttr]
 refine vbr (fun h => ?_) (fun h => ?_) <;> simp only [wq, simprocAttr]
 case refine_2 =>
  refine hK _ ?_
  clear hK K
  try refine vthen_n ?_
  repeat refine VW.seq ?_
  refine VW.cond rfl (fun hc => ?_) (fun hc => ?_)
  ·repeat refine VW.seq ?_
   refine VW.regl hT fun K hK => ?_
   simp only [wq, simprocAttr]
   refine hK _ ?_
   clear hK K
   try refine vthen_n ?_
   refine VW.ret ⟨.inl rfl, _, rfl, ?_⟩
   have h' : treeOk t = false := (Bool.not_eq_true' _).mp h
   rw [sizesOk, h', Bool.false_and]
  ·cases hc
 have hok : treeOk t = true := by
  have := h
  rwa [Bool.not_eq_false'] at this
 have htl := treeOk_len hok
 refine hK _ ?_
 clear hK K
 try refine vthen_n ?_
 rw [lenEq]
 repeat refine VW.seq ?_
 refine VW.cond rfl (fun hc => ?_) (fun hc => ?_)
 ·repeat refine VW.seq ?_
  refine VW.regl hT fun K hK => ?_
  simp only [wq, simprocAttr]
  refine hK _ ?_
  clear hK K
  try refine vthen_n ?_
  refine VW.ret ⟨.inl rfl, _, rfl, ?_⟩
  have h' : (s.length == t.length) = false := (Bool.not_eq_true' _).mp hc
  rw [sizesOk, h', Bool.false_and, Bool.and_false]
 have hsl : s.length = t.length := by simpa using hc
 refine VW.skip (vthen_n ?_)
 repeat refine VW.seq ?_
 refine VW.regl hT fun K hK => ?_
 simp only [wq, simprocAttr]
 refine hK _ ?_
 clear hK K
 try refine vthen_n ?_
 repeat refine VW.seq ?_
 refine VW.block ?_
 refine VW.loop (α := Nat) [(0, none), (1, none), (5, none)] (fun i => [.v false sNS t, .v false sI s, D, D, D, .v false (.int .i64) (i), D, D, D, D, D, D, D, D, D, D, D, D, D, D, D, D, D, D, D, D, D, D, D, D, D, D, D, D, D, D, D, D, D, D, D, D, D, D, D, D, D, D, D, D, D]) (fun i => i ≤ t.length ∧ ∀ k, k < i → sizeBad t s k = false) (fun i => t.length - i) ⟨0, ⟨by omega, fun k hk => by omega⟩, ?_⟩ fun i ⟨hi, hk⟩ => ?_
 ·simp only [wn, wq, simprocAttr]
  try rfl
 repeat refine VW.seq ?_
 refine VW.regl hT fun K hK => ?_
 simp only [wq, simprocAttr]
 refine hK _ ?_
 clear hK K
 try refine vthen_n ?_
 repeat refine VW.seq ?_
 refine VW.cond rfl (fun hc => ?_) (fun hc => ?_)
 ·have hlt : i < t.length := by simpa using hc
  have hi1 : decide (0 ≤ (i : Int) ∧ (i : Int) < (s.length : Int)) = true := decide_eq_true ⟨Int.natCast_nonneg _, by omega⟩
  have hi2 : decide (0 ≤ (i : Int) ∧ (i : Int) < (t.length : Int)) = true := decide_eq_true ⟨Int.natCast_nonneg _, by omega⟩
  refine VW.skip (vthen_n ?_)
  repeat refine VW.seq ?_
  refine VW.block ?_
  apply cutl
  ·intro tail
   repeat refine VW.seq ?_
   refine VW.regl hT fun K hK => ?_
   simp only [wq, simprocAttr]
   refine ⟨hi1, ?_⟩
   refine vbr (fun g => ?_) (fun g => ?_) <;> simp only [wq, simprocAttr]
   case refine_2 =>
    refine hK _ ?_
    try refine vthen_n ?_
    refine VW.cond rfl (fun hc => by cases hc) (fun hc => ?_)
    refine VW.skip ?_
    show vthen _ _ _ .normal _
    refine vthen_n ?_
    refine VW.weak (weak_norm [(0, none), (1, none), (5, none)] _) ?_
    simp only [wn, wq, simprocAttr]
    have hb : sizeBad t s i = false := by
     have g2 : (!(s.getD i 0 == 0)) = false := g
     rw [sizeBad, g2, Bool.false_and]
    revert hb
    exact tail.h
   have g2 : (!(s.getD i 0 == 0)) = true := g
   have bad : ((t.getD i z).2.2 == 0 || !pw (s.getD i 0)) = true → sizesOk t s = false := fun h => sizesOk_false (k := i) (by omega) (by rw [sizeBad, g2, h]; rfl)
   refine ⟨hi2, ?_⟩
   refine vbr (fun g3 => ?_) (fun g3 => ?_) <;> simp only [wq, simprocAttr]
   case refine_2 =>
    refine hK _ ?_
    try refine vthen_n ?_
    refine VW.cond rfl (fun hc => ?_) (fun hc => by cases hc)
    repeat refine VW.seq ?_
    refine VW.regl hT fun K hK => ?_
    simp only [wq, simprocAttr]
    refine hK _ ?_
    clear hK K
    try refine vthen_n ?_
    refine VW.ret ⟨.inl rfl, _, rfl, ?_⟩
    rw [bad (by rw [show ((t.getD i z).2.2 == 0) = true from g3]; rfl)]
   have g3 : ((t.getD i z).2.2 == 0) = false := g3
   refine ⟨hi1, ?_⟩
   refine vcall_ex (specPower_vc _) ?_
   rintro pv ⟨b, rfl, hb⟩
   simp only [wq, simprocAttr]
   refine vbr (fun g4 => ?_) (fun g4 => ?_) <;> simp only [wq, simprocAttr]
   case refine_2 =>
    refine hK _ ?_
    try refine vthen_n ?_
    refine VW.cond rfl (fun hc => ?_) (fun hc => by cases hc)
    repeat refine VW.seq ?_
    refine VW.regl hT fun K hK => ?_
    simp only [wq, simprocAttr]
    refine hK _ ?_
    clear hK K
    try refine vthen_n ?_
    refine VW.ret ⟨.inl rfl, _, rfl, ?_⟩
    have g4 : b = false := by simpa using g4
    have : pw (s.getD i 0) = false := by
     rw [← Bool.not_eq_true]
     intro h
     have h2 := pw_in h
     have h3 := hb h2.1 h2.2
     rw [g4] at h3
     rw [show pw (s.getD i 0) = false from h3.symm] at h
     cases h
    rw [bad (by rw [this]; simp)]
   have g4 : b = true := by simpa using g4
   refine ⟨hi1, ?_⟩
   refine vcall_of (in_vc _ 16 4096) ?_
   simp only [wq, simprocAttr]
   refine hK _ ?_
   try refine vthen_n ?_
   refine VW.cond rfl (fun hc => ?_) (fun hc => ?_)
   ·repeat refine VW.seq ?_
    refine VW.regl hT fun K hK => ?_
    simp only [wq, simprocAttr]
    refine hK _ ?_
    clear hK K
    try refine vthen_n ?_
    refine VW.ret ⟨.inl rfl, _, rfl, ?_⟩
    have hc : inB (s.getD i 0) 16 4096 = false := (Bool.not_eq_true' _).mp hc
    have : pw (s.getD i 0) = false := by
     rw [← Bool.not_eq_true]
     intro h
     rw [inB_iff.2 (pw_in h)] at hc
     cases hc
    rw [bad (by rw [this]; simp)]
   ·refine VW.skip ?_
    show vthen _ _ _ .normal _
    refine vthen_n ?_
    refine VW.weak (weak_norm [(0, none), (1, none), (5, none)] _) ?_
    simp only [wn, wq, simprocAttr]
    have hb : sizeBad t s i = false := by
     have hc : inB (s.getD i 0) 16 4096 = true := by
      have := hc
      rwa [Bool.not_eq_false'] at this
     have h2 := inB_iff.1 hc
     have h3 := hb h2.1 h2.2
     rw [g4] at h3
     rw [sizeBad, g3, show pw (s.getD i 0) = true from h3.symm]
     simp
    revert hb
    exact tail.h
  ·intro hb
   repeat refine VW.seq ?_
   refine VW.regl hT fun K hK => ?_
   simp only [wq, simprocAttr]
   refine hK _ ?_
   clear hK K
   try refine vthen_n ?_
   refine ⟨i + 1, ⟨hlt, fun k h => ?_⟩, ?_, by show t.length - (i + 1) < t.length - i; omega⟩
   ·rcases Nat.lt_or_ge k i with h1 | h1
    ·exact hk k h1
    ·obtain rfl : k = i := by omega
     exact hb
   ·simp only [wn, wq, simprocAttr]
    rw [wrap64 (by omega) (by omega)]
    rfl
 ·have hge : t.length ≤ i := by simpa using hc
  refine VW.exit ?_
  show vthen _ _ _ .normal _
  refine vthen_n ?_
  repeat refine VW.seq ?_
  refine VW.regl hT fun K hK => ?_
  simp only [wq, simprocAttr]
  refine hK _ ?_
  clear hK K
  try refine vthen_n ?_
  refine VW.ret ⟨.inl rfl, _, rfl, ?_⟩
  rw [sizesOk_iff.2 ⟨hok, hsl, fun k hk' => hk k (by omega)⟩]
theorem specNode_vc (t : List Nd) (k : Int) (hl : t.length ≤ 2000000) : VC Tryz.prog 193 [.v false sNS t, .v false (.int .i64) (k)] (· = .v false .bool (treeOk t && inB k 0 (t.length - 1))) := by
 refine VC.of_body hT Tryz.func193 rfl (by kernel_rfl) [(.tmp 4, false, .bool)] (by kernel_rfl) ?_
 show VW _ _ ([.v false sNS t, .v false (.int .i64) (k), D, D, D, D, D, D, D, D, D, D, D, D]) _
 repeat refine VW.seq ?_
 refine VW.regl hT fun K hK => ?_
 simp only [wq, simprocAttr]
 refine hK _ ?_
 clear hK K
 try refine vthen_n ?_
 repeat refine VW.seq ?_
 refine VW.regl hT fun K hK => ?_
 simp only [wq, simprocAttr]
 refine vcall_of (specTreeOk_vc t hl) ?_
 simp only [wq, simprocAttr]
 refine vbr (fun h => ?_) (fun h => ?_) <;> simp only [wq, simprocAttr]
 ·rw [wrap64 (by omega) (by omega)]
  refine vcall_of (in_vc k 0 (t.length - 1)) ?_
  simp only [wq, simprocAttr]
  refine hK _ ?_
  clear hK K
  try refine vthen_n ?_
  refine VW.ret ⟨.inl rfl, _, rfl, ?_⟩
  simp only [h, Bool.true_and]
 ·refine hK _ ?_
  clear hK K
  try refine vthen_n ?_
  refine VW.ret ⟨.inl rfl, _, rfl, ?_⟩
  simp only [h, Bool.not_true, Bool.false_and]
/-- the nodes below k with device d among the first i -/
def kidsD (t : List Nd) (k : Int) (d i : Nat) : List Int := ((List.range i).filter fun j : Nat => decide (1 ≤ j) && ((t.getD j z).1 == k && (t.getD j z).2.1 == (d : Int))).map fun j : Nat => (j : Int)
theorem kidsD_succ (t : List Nd) (k : Int) (d i : Nat) : kidsD t k d (i + 1) = kidsD t k d i ++ (if (decide (1 ≤ i) && ((t.getD i z).1 == k && (t.getD i z).2.1 == (d : Int))) = true then [(i : Int)] else []) := by
 unfold kidsD
 rw [List.range_succ, List.filter_append, List.map_append]
 congr 1
 simp only [List.filter_cons, List.filter_nil]
 split <;> rfl
theorem kidsD_len (t : List Nd) (k : Int) (d i : Nat) : (kidsD t k d i).length ≤ i := by
 unfold kidsD
 rw [List.length_map]
 refine Nat.le_trans (List.length_filter_le _ _) ?_
 simp
def kidsTo (t : List Nd) (k : Int) (d : Nat) : List Int := (List.range d).flatMap fun d => kidsD t k d t.length
theorem kidsTo_succ (t : List Nd) (k : Int) (d : Nat) : kidsTo t k (d + 1) = kidsTo t k d ++ kidsD t k d t.length := by
 unfold kidsTo
 rw [List.range_succ, List.flatMap_append]
 simp
theorem kidsTo_len (t : List Nd) (k : Int) : ∀ d, (kidsTo t k d).length ≤ d * t.length
 | 0 => by simp [kidsTo]
 | d + 1 => by
  rw [kidsTo_succ, List.length_append, Nat.succ_mul]
  have := kidsTo_len t k d
  have := kidsD_len t k d t.length
  omega
def skids (t : List Nd) (k : Int) : List Int := if (treeOk t && inB k 0 (t.length - 1)) = true then kidsTo t k 4 else []
set_option maxRecDepth 20000 in
theorem specChildren_vc (t : List Nd) (k : Int) (hl : t.length ≤ 2000000) : VC Tryz.prog 180 [.v false sNS t, .v false (.int .i64) (k)] (· = .root (.val false) sI .own (skids t k)) := by
 refine VC.of_body hT Tryz.func180 rfl (by kernel_rfl) [(.tmp 4, false, sI)] (by kernel_rfl) ?_
 show VW _ _ ([.v false sNS t, .v false (.int .i64) (k), D, D, D, D, D, D, D, D, D, D, D, D, D, D, D, D, D, D, D, D, D, D, D, D, D, D, D, D, D, D, D, D, D, D, D, D, D, D, D, D, D, D, D]) _
 repeat refine VW.seq ?_
 refine VW.regl hT fun K hK => ?_
 simp only [wq, simprocAttr]
 refine hK _ ?_
 clear hK K
 try refine vthen_n ?_
 repeat refine VW.seq ?_
 refine VW.regl hT fun K hK => ?_
 simp only [wq, simprocAttr]
 refine hK _ ?_
 clear hK K
 try refine vthen_n ?_
 repeat refine VW.seq ?_
 refine VW.regl hT fun K hK => ?_
 simp only [wq, simprocAttr]
 refine vcall_of (specNode_vc t k hl) ?_
 simp only [wq, simprocAttr]
 refine hK _ ?_
 clear hK K
 try refine vthen_n ?_
 repeat refine VW.seq ?_
 refine VW.cond rfl (fun hc => ?_) (fun hc => ?_)
 ·repeat refine VW.seq ?_
  refine VW.regl hT fun K hK => ?_
  simp only [wq, simprocAttr]
  refine hK _ ?_
  clear hK K
  try refine vthen_n ?_
  refine VW.ret ⟨.inl rfl, _, rfl, ?_⟩
  have h' : (treeOk t && inB k 0 (t.length - 1)) = false := (Bool.not_eq_true' _).mp hc
  rw [skids, h']
  try rfl
 have hok : (treeOk t && inB k 0 (t.length - 1)) = true := by
  have := hc
  rwa [Bool.not_eq_false'] at this
 have htl : 1 ≤ t.length ∧ t.length ≤ 12 := by
  simp only [Bool.and_eq_true] at hok
  exact treeOk_len hok.1
 refine VW.skip (vthen_n ?_)
 repeat refine VW.seq ?_
 refine VW.regl hT fun K hK => ?_
 simp only [wq, simprocAttr]
 refine hK _ ?_
 clear hK K
 try refine vthen_n ?_
 repeat refine VW.seq ?_
 refine VW.block ?_
 refine VW.loop (α := Nat) [(0, none), (1, none), (5, some (3, .int .i64)), (6, none)] (fun d => [.v false sNS t, .v false (.int .i64) (k), D, D, D, .root (.val false) sI .own (kidsTo t k d), .v false (.int .i64) (d), D, D, D, D, D, D, D, D, D, D, D, D, D, D, D, D, D, D, D, D, D, D, D, D, D, D, D, D, D, D, D, D, D, D, D, D, D, D]) (fun d => d ≤ 4) (fun d => 4 - d) ⟨0, by omega, ?_⟩ fun d hd => ?_
 ·simp only [wn, wq, simprocAttr]
  try rfl
 repeat refine VW.seq ?_
 refine VW.regl hT fun K hK => ?_
 simp only [wq, simprocAttr]
 refine hK _ ?_
 clear hK K
 try refine vthen_n ?_
 repeat refine VW.seq ?_
 refine VW.cond rfl (fun hc => ?_) (fun hc => ?_)
 ·have hlt : d < 4 := by
   have : (d : Int) ≤ 3 := of_decide_eq_true hc
   omega
  have hkt := kidsTo_len t k d
  have hmul : d * t.length ≤ 4 * 12 := Nat.mul_le_mul (by omega) (by omega)
  refine VW.skip (vthen_n ?_)
  repeat refine VW.seq ?_
  refine VW.block ?_
  repeat refine VW.seq ?_
  refine VW.regl hT fun K hK => ?_
  simp only [wq, simprocAttr]
  refine hK _ ?_
  clear hK K
  try refine vthen_n ?_
  repeat refine VW.seq ?_
  refine VW.block ?_
  refine VW.loop (α := Nat) [(0, none), (1, none), (5, some (3, .int .i64)), (6, none), (7, none)] (fun i => [.v false sNS t, .v false (.int .i64) (k), D, D, D, .root (.val false) sI .own (kidsTo t k d ++ kidsD t k d i), .v false (.int .i64) (d), .v false (.int .i64) (i), D, D, D, D, D, D, D, D, D, D, D, D, D, D, D, D, D, D, D, D, D, D, D, D, D, D, D, D, D, D, D, D, D, D, D, D, D]) (fun i => 1 ≤ i ∧ i ≤ t.length) (fun i => t.length - i) ⟨1, ⟨by omega, by omega⟩, ?_⟩ fun i ⟨hi1, hi⟩ => ?_
  ·simp only [wn, wq, simprocAttr]
   rw [show kidsD t k d 1 = [] from rfl, List.append_nil]
   try rfl
  have hkd := kidsD_len t k d i
  repeat refine VW.seq ?_
  refine VW.regl hT fun K hK => ?_
  simp only [wq, simprocAttr]
  refine hK _ ?_
  clear hK K
  try refine vthen_n ?_
  repeat refine VW.seq ?_
  refine VW.cond rfl (fun hc => ?_) (fun hc => ?_)
  ·have hlti : i < t.length := by simpa using hc
   have hi2 : decide (0 ≤ (i : Int) ∧ (i : Int) < (t.length : Int)) = true := decide_eq_true ⟨Int.natCast_nonneg _, by omega⟩
   have hd1 : decide (1 ≤ i) = true := decide_eq_true hi1
   refine VW.skip (vthen_n ?_)
   repeat refine VW.seq ?_
   refine VW.block ?_
   apply cutl
   ·intro tail
    repeat refine VW.seq ?_
    refine VW.regl hT fun K hK => ?_
    simp only [wq, simprocAttr]
    refine ⟨hi2, ?_⟩
    refine vbr (fun g => ?_) (fun g => ?_) <;> simp only [wq, simprocAttr]
    case refine_2 =>
     refine hK _ ?_
     try refine vthen_n ?_
     refine VW.cond rfl (fun hc => by cases hc) (fun hc => ?_)
     refine VW.skip ?_
     show vthen _ _ _ .normal _
     refine vthen_n ?_
     refine VW.weak (weak_norm [(0, none), (1, none), (5, none), (6, none), (7, none)] _) ?_
     simp only [wn, wq, simprocAttr]
     have e : kidsTo t k d ++ kidsD t k d i = kidsTo t k d ++ kidsD t k d (i + 1) := by
      rw [kidsD_succ, show ((t.getD i z).1 == k) = false from g]
      simp
     rw [e]
     exact tail.h
    refine ⟨hi2, ?_⟩
    refine hK _ ?_
    try refine vthen_n ?_
    refine VW.cond rfl (fun hc => ?_) (fun hc => ?_)
    ·repeat refine VW.seq ?_
     refine VW.regl hT fun K hK => ?_
     simp only [wq, simprocAttr]
     refine ⟨by simp [limOk]; omega, ?_⟩
     refine hK _ ?_
     try refine vthen_n ?_
     show vthen _ _ _ .normal _
     refine vthen_n ?_
     refine VW.weak (weak_norm [(0, none), (1, none), (5, none), (6, none), (7, none)] _) ?_
     simp only [wn, wq, simprocAttr]
     have e : kidsTo t k d ++ kidsD t k d i ++ [(i : Int)] = kidsTo t k d ++ kidsD t k d (i + 1) := by
      rw [kidsD_succ, hd1, show ((t.getD i z).1 == k) = true from g, show ((t.getD i z).2.1 == (d : Int)) = true from hc]
      simp
     rw [e]
     exact tail.h
    ·refine VW.skip ?_
     show vthen _ _ _ .normal _
     refine vthen_n ?_
     refine VW.weak (weak_norm [(0, none), (1, none), (5, none), (6, none), (7, none)] _) ?_
     simp only [wn, wq, simprocAttr]
     have e : kidsTo t k d ++ kidsD t k d i = kidsTo t k d ++ kidsD t k d (i + 1) := by
      rw [kidsD_succ, show ((t.getD i z).2.1 == (d : Int)) = false from hc]
      simp
     rw [e]
     exact tail.h
   ·repeat refine VW.seq ?_
    refine VW.regl hT fun K hK => ?_
    simp only [wq, simprocAttr]
    refine hK _ ?_
    clear hK K
    try refine vthen_n ?_
    refine ⟨i + 1, ⟨by omega, by omega⟩, ?_, by show t.length - (i + 1) < t.length - i; omega⟩
    simp only [wn, wq, simprocAttr]
    rw [wrap64 (by omega) (by omega)]
    try rfl
  ·have hge : i = t.length := by
    have : t.length ≤ i := by simpa using hc
    omega
   subst hge
   refine VW.exit ?_
   show vthen _ _ _ .normal _
   refine vthen_n ?_
   repeat refine VW.seq ?_
   refine VW.regl hT fun K hK => ?_
   simp only [wq, simprocAttr]
   refine hK _ ?_
   clear hK K
   try refine vthen_n ?_
   refine ⟨d + 1, by omega, ?_, by show 4 - (d + 1) < 4 - d; omega⟩
   simp only [wn, wq, simprocAttr]
   rw [wrap64 (by omega) (by omega), kidsTo_succ]
   try rfl
 ·have hge : d = 4 := by
   have : ¬ (d : Int) ≤ 3 := of_decide_eq_false hc
   omega
  subst hge
  refine VW.exit ?_
  show vthen _ _ _ .normal _
  refine vthen_n ?_
  repeat refine VW.seq ?_
  refine VW.regl hT fun K hK => ?_
  simp only [wq, simprocAttr]
  refine hK _ ?_
  clear hK K
  try refine vthen_n ?_
  refine VW.ret ⟨.inl rfl, _, rfl, ?_⟩
  rw [skids, if_pos hok]
end Go.Proofs.YtoeblmcibheldaaGreatDoor.V.W
end
section
namespace Go.Proofs.YtoeblmcibheldaaGreatDoor.V
open Go Go.RowKit
theorem getD_setL {α : Type} (xs : List α) (i j : Nat) (y z : α) (hi : i < xs.length) : (xs.set i y).getD j z = if j = i then y else xs.getD j z := by
 rw [List.getD_eq_getElem?_getD, List.getD_eq_getElem?_getD, List.getElem?_set]
 by_cases h : i = j
 ·subst h; simp [hi]
 ·rw [if_neg h, if_neg (fun e => h e.symm)]
/-- a row's own element taken out and put back -/
theorem own_el {w : World} {Z : Nat → Prop} {e e2 : TypeId} {s2 : Sh} {xs : List (List s2.ty)} {v : Value} {B : Nat → Prop} {i : Nat} (hi : i < xs.length) (hB : ∀ b, B b → b < w.heap.size) (hR : OwnR w e 1 (fun x c B' => Rep w Z (.sl e2 s2) .own x c B') [] xs [v] B) :
  ∃ A c u, ∃ Bi : Nat → Prop, v = .slice (some A) xs.length c ∧ rowCells w (A.add (i * 1)) 1 = [u] ∧ (∀ b, Bi b → B b) ∧ Rep w Z (.sl e2 s2) .own (xs.getD i []) [u] Bi ∧
   ∀ (w' : World) (y : List s2.ty) (Bo Z' : Nat → Prop), (∀ b, Z b → Z' b) → ExtF w w' Bi → Rep w' Z' (.sl e2 s2) .own y [u] Bo → (∀ b, Bo b → Bi b ∨ w.heap.size ≤ b) → (∀ b, Z b → b < w.heap.size ∧ ¬ B b) →
    OwnR w' e 1 (fun x c B' => Rep w' Z' (.sl e2 s2) .own x c B') [] (xs.set i y) [v] (fun b => (B b ∧ ¬ Bi b) ∨ Bo b) := by
 rcases hR with ⟨A, _, rfl⟩ | ⟨g, cap, cur, rows, Bs, hA, q2, q3, q4, q5, q6, q7, q8⟩
 ·have : ([] : List (List s2.ty)).length = 0 := rfl
  omega
 have hv : v = .slice (some ⟨g, 0, none⟩) xs.length cap := by simpa using hA
 obtain ⟨p1, p2, p3, p4⟩ := q7 i hi
 obtain ⟨u, hu⟩ : ∃ u, rows i = [u] := by
  match h : rows i, p1 with
  | [u], _ => exact ⟨u, rfl⟩
 have hadd : (⟨g, 0, none⟩ : Addr).add (i * 1) = ⟨g, i * 1, none⟩ := by unfold Addr.add; split <;> simp_all
 refine ⟨⟨g, 0, none⟩, cap, u, Bs i, hv, ?_, fun b hb => (p3 b hb).1, by rw [hu] at p4; exact p4, ?_⟩
 ·refine rowCells_eq rfl fun j hj => ?_
  rw [add_add, cell_at rfl q2, ← hu, ← p2 j hj]
  show cur[0 + (i * 1 + j)]? = _
  rw [Nat.zero_add]
 ·intro w' y Bo Z' hZZ hx hy hBo hZ
  have hgB : ¬ Bs i g := fun h => (p3 g h).2 rfl
  have hg' : w'.heap[g]? = some (.cells cur e (0, 0)) := by rw [hx.block g (hB g q6) hgB]; exact q2
  refine .inr ⟨g, cap, cur, rows, fun j => if j = i then Bo else Bs j, by rw [hv, List.length_set], hg', by rw [List.length_set]; exact q3, q4, q5, .inl ⟨q6, hgB⟩, fun j hj => ?_, fun j k b hj hk hne h1 h2 => ?_⟩
  ·rw [List.length_set] at hj
   obtain ⟨r1, r2, r3, r4⟩ := q7 j hj
   by_cases e : j = i
   ·subst e
    refine ⟨r1, r2, fun b hb => ?_, ?_⟩
    ·have hb : Bo b := by
      have hb : (if j = j then Bo else Bs j) b := hb
      rwa [if_pos rfl] at hb
     refine ⟨.inr hb, ?_⟩
     rintro rfl
     rcases hBo _ hb with h | h
     ·exact hgB h
     ·have := hB _ q6
      omega
    ·simp only [if_true]
     rw [getD_setL _ _ _ _ _ hi, if_pos rfl, hu]
     exact hy
   ·refine ⟨r1, r2, fun b hb => ?_, ?_⟩
    ·have hb : (if j = i then Bo else Bs j) b := hb
     rw [if_neg e] at hb
     have := r3 b hb
     exact ⟨.inl ⟨this.1, fun h => q8 j i b hj hi e hb h⟩, this.2⟩
    ·simp only [if_neg e]
     rw [getD_setL _ _ _ _ _ hi, if_neg e]
     exact r4.frame (fun b h => hZZ b h) (fun b hb => by
      rcases hb with hb | hb
      ·exact hx.block b (hZ b hb).1 (fun h => (hZ b hb).2 (p3 b h).1)
      ·exact hx.block b (hB b (r3 b hb).1) (fun h => q8 j i b hj hi e hb h))
  ·rw [List.length_set] at hj hk
   have h1 : (if j = i then Bo else Bs j) b := h1
   have h2 : (if k = i then Bo else Bs k) b := h2
   by_cases e1 : j = i
   ·subst e1
    have e2 : ¬ k = j := fun e => hne e.symm
    simp only [if_true] at h1
    rw [if_neg e2] at h2
    rcases hBo _ h1 with h | h
    ·exact q8 j k b hj hk hne h h2
    ·have := hB _ ((q7 k hk).2.2.1 b h2).1
     omega
   ·by_cases e2 : k = i
    ·subst e2
     rw [if_neg e1] at h1
     simp only [if_true] at h2
     rcases hBo _ h2 with h | h
     ·exact q8 j k b hj hk hne h1 h
     ·have := hB _ ((q7 j hj).2.2.1 b h1).1
      omega
    ·rw [if_neg e1] at h1
     rw [if_neg e2] at h2
     exact q8 j k b hj hk hne h1 h2
section
variable {P : Program} {T : List (Nat × TI)} {o : Oper} {st st1 st2 : St}
variable {ops : Array Oper}
end
end Go.Proofs.YtoeblmcibheldaaGreatDoor.V
end
section
namespace Go.Proofs.YtoeblmcibheldaaGreatDoor.V
open Go Go.RowKit
section
variable {L : Lay} {st : St} {a : Act} {w : World} {R : Nat → Prop}
variable {P : Program} {T : List (Nat × TI)} {o : Oper} {K : St → Prop}
end
end Go.Proofs.YtoeblmcibheldaaGreatDoor.V
end
section
namespace Go.Proofs.YtoeblmcibheldaaGreatDoor.V.W
open Go Go.RowKit
end Go.Proofs.YtoeblmcibheldaaGreatDoor.V.W
end
section
namespace Go.Proofs.YtoeblmcibheldaaGreatDoor.V
open Go Go.RowKit
/-- what holds nothing frozen -/
def clean1 : PV → PV
 | .v agg s x => if s.plain = true then .v agg s x else .dead
 | .root k s f x => if Fl.nofz s f = true then .root k s f x else .dead
 | .emp => .emp
 | _ => .dead
def clean (st : St) : St := st.map clean1
theorem clean_len (st : St) : (clean st).length = st.length := by simp [clean]
theorem clean_at (st : St) (t : Nat) : (clean st).at t = clean1 (st.at t) := by
 unfold clean St.at
 rw [List.getD_eq_getElem?_getD, List.getD_eq_getElem?_getD, List.getElem?_map]
 cases st[t]? <;> rfl
section
variable {L : Lay} {st : St} {a : Act} {w : World} {R : Nat → Prop}
/-- what is let go is frozen from then on -/
theorem Rel.frozen (h : Rel L st a w R) : Rel ⟨fun b => L.Z b ∨ R b, L.F, L.C, L.D⟩ st a w Free where
 size := h.size
 defers := h.defers
 zlt := ⟨fun b hb => hb.elim (h.zlt b) fun q => (h.rlt b q).1, h.zlt.gl.up fun b hb => .inl hb⟩
 flt := fun t b hb => ⟨(h.flt t b hb).1, fun q => q.elim (h.flt t b hb).2 (h.rdj t b hb)⟩
 dj := h.dj
 rlt := fun b hb => hb.elim
 rdj := fun t b _ hb => hb.elim
 tmp := fun t ht => by
  have := h.tmp t ht
  rcases PV.root_or (st.at t) with ⟨k, s, f, x, e⟩ | e
  ·rw [e] at this ⊢
   obtain ⟨q1, B, q2, q3, q4⟩ := this
   exact ⟨q1, B, q2, q3, q4.frame (fun b hb => .inl hb) (fun _ _ => rfl)⟩
  ·rw [PVRep.of e] at this ⊢
   exact ORep.places (L' := ⟨fun b => L.Z b ∨ R b, L.F, L.C, L.D⟩) (fun b hb => Or.inl hb) (fun _ _ => rfl) (fun agg g p _ s1 cs1 ad1 h1 h2 h3 => ⟨s1, cs1, ad1, h1, h2, h3⟩) (fun g p _ s1 cs1 A h1 => ⟨cs1, h1⟩) this
theorem put_same {g : Nat} : a.put (some g) (a.tmps.getD g undef) = a := by
 show ({ a with tmps := a.tmps.setIfInBounds g (a.tmps.getD g undef) } : Act) = a
 have : a.tmps.setIfInBounds g (a.tmps.getD g undef) = a.tmps := by
  apply Array.ext
  ·simp
  ·intro j h1 h2
   rw [Array.getElem_setIfInBounds h2]
   split
   ·rename_i e
    subst e
    simp [Array.getD, h2]
   ·rfl
 rw [this]
theorem Rel.clean (h : Rel L st a w Free) {Z : Nat → Prop} (hZ : ∀ b, Z b → L.Z b) (hG : GOk Z w) : Rel ⟨Z, L.F, L.C, L.D⟩ (V.clean st) a w Free where
 size := by rw [clean_len]; exact h.size
 defers := h.defers
 zlt := ⟨fun b hb => h.zlt b (hZ b hb), hG⟩
 flt := fun t b hb => ⟨(h.flt t b hb).1, fun q => (h.flt t b hb).2 (hZ b q)⟩
 dj := h.dj
 rlt := fun b hb => hb.elim
 rdj := fun t b _ hb => hb.elim
 tmp := fun t ht => by
  rw [clean_len] at ht
  have := h.tmp t ht
  rw [clean_at]
  generalize a.tmps.getD t undef = v at this ⊢
  cases hp : st.at t with
  | v agg s x =>
   rw [hp] at this
   simp only [clean1]
   split
   ·rename_i hs
    obtain ⟨cs, q1, q2⟩ := this
    exact ⟨cs, q1, q2.plain hs⟩
   ·trivial
  | root k s f x =>
   rw [hp] at this
   simp only [clean1]
   split
   ·rename_i hs
    obtain ⟨q1, B, q2, q3, q4⟩ := this
    exact ⟨q1, B, q2, q3, q4.nofz hs⟩
   ·trivial
  | emp =>
   rw [hp] at this
   exact this
  | dead => trivial
  | h => trivial
  | adr => trivial
  | fadr => trivial
  | fn => trivial
end
/-- one's own memory that is read alone till the end: it counts as frozen -/
theorem VW.giveup {P : Program} {c : Code} {st : St} {Q : Exit → St → Prop} (g : Nat) {s : Sh} {fl : Fl} {x : s.ty} (hg : st.at g = .root (.val false) s fl x) (hs : Fl.sound s fl = true) (h : VW P c ((st.map (V.drop g)).set g (.v false s x)) (fun e st2 => Q e (clean st2))) : VW P c st Q := by
  intro L a w hr
  obtain ⟨B, r1, r2, r3⟩ := hr.gone hg
  have r4 := r1.frozen
  have hroot := (hr.root hg).1
  have hgl : g < st.length := root_lt hg
  have hdead : (St.at ((st.map (V.drop g)).set g .dead) g).isRoot = false := by
    rw [St.at_set, if_pos ⟨rfl, by rw [List.length_map]; exact hgl⟩]
    try rfl
  have r5 := r4.setO (d := g) (v := a.tmps.getD g undef) hdead (pv := .v false s x) rfl ⟨L.C g, hroot.1, r3.freeze (fun b hb => .inl hb) hs (fun b hb => .inr (.inr (r2 b hb)))⟩
  rw [put_same, List.set_set] at r5
  refine wp_mono (h _ a w r5) fun e a' w' ⟨L', st', s', r', q⟩ => ⟨⟨L.Z, L'.F, L'.C, L'.D⟩, _, ?_, r'.clean (fun b hb => s'.Z.up b (.inl hb)) (hr.zlt.gl.step fun b hb => s'.block b (hr.zlt b hb) fun t ht => (r5.flt t b ht).2 (.inl hb)), q⟩
  refine ⟨s'.os, s'.tape, s'.output, s'.size, fun n hn hL => s'.block n hn fun t ht => ?_, .of rfl, fun t n hn => ?_⟩
  · simp only at ht
    split at ht
    · exact ht
    · exact hL t ht
  · rcases s'.F t n hn with ⟨t', ht⟩ | hn
    · simp only at ht
      split at ht
      · exact ht.elim
      · exact .inl ⟨t', ht⟩
    · exact .inr hn
end Go.Proofs.YtoeblmcibheldaaGreatDoor.V
end
section
namespace Go.Proofs.YtoeblmcibheldaaGreatDoor.V.W
open Go Go.RowKit
/-- where p holds first -/
def IdxI (p : Int → Bool) (xs : List Int) (m : Int) : Prop := (m = -1 ∧ ∀ k, k < xs.length → p (xs.getD k 0) = false) ∨ ∃ i : Nat, i < xs.length ∧ m = i ∧ p (xs.getD i 0) = true ∧ ∀ k, k < i → p (xs.getD k 0) = false
theorem indexI_vc (xs : List Int) (f : FuncId) (caps : List Cap) (p : Int → Bool) (hcap : caps.any isAdr = false) (hp : ∀ x, VC Tryz.prog f (.v false (.int .i64) (x) :: caps.map capPV) (· = .v false .bool (p x))) (hl : xs.length ≤ 2000000) :
  VC Tryz.prog 157 [.v false sI xs, .fn f caps] (fun r => ∃ m : Int, r = .v false (.int .i64) (m) ∧ IdxI p xs m) := by
 refine VC.of_body hT Tryz.func157 rfl (by kernel_rfl) [(.tmp 4, false, .int .i64)] (by kernel_rfl) ?_
 show VW _ _ ([.v false sI xs, .fn f caps, D, D, D, D, D, D, D, D, D, D, D, D, D, D, D, D, D]) _
 repeat refine VW.seq ?_
 refine VW.regl hT fun K hK => ?_
 simp only [wq, simprocAttr]
 refine hK _ ?_
 clear hK K
 try refine vthen_n ?_
 repeat refine VW.seq ?_
 refine VW.regl hT fun K hK => ?_
 simp only [wq, simprocAttr]
 refine hK _ ?_
 clear hK K
 try refine vthen_n ?_
 repeat refine VW.seq ?_
 refine VW.block ?_
 refine VW.loop (α := Nat) [(0, none), (1, none), (7, none), (8, none)] (fun i => [.v false sI xs, .fn f caps, D, D, D, D, D, .v false (.int .i64) (xs.length), .v false (.int .i64) (i), D, D, D, D, D, D, D, D, D, D]) (fun i => i ≤ xs.length ∧ ∀ k, k < i → p (xs.getD k 0) = false) (fun i => xs.length - i) ⟨0, ⟨by omega, fun k hk => by omega⟩, ?_⟩ fun i ⟨hi, hk⟩ => ?_
 ·simp only [capOut_any hcap, wn, wq, simprocAttr]
  try rfl
 repeat refine VW.seq ?_
 refine VW.regl hT fun K hK => ?_
 simp only [wq, simprocAttr]
 refine hK _ ?_
 clear hK K
 try refine vthen_n ?_
 repeat refine VW.seq ?_
 refine VW.cond rfl (fun hc => ?_) (fun hc => ?_)
 ·have hlt : i < xs.length := by simpa using hc
  refine VW.skip (vthen_n ?_)
  repeat refine VW.seq ?_
  refine VW.block ?_
  repeat refine VW.seq ?_
  refine VW.regl hT fun K hK => ?_
  simp only [wq, simprocAttr]
  refine hK _ ?_
  clear hK K
  try refine vthen_n ?_
  repeat refine VW.seq ?_
  refine VW.regl hT fun K hK => ?_
  simp only [wq, simprocAttr]
  simp only [lendCaps_all _ caps hcap, wq, simprocAttr]
  refine ⟨by simp; omega, ?_⟩
  refine vcall_of (hp _) ?_
  rw [hcap]
  simp only [wq, simprocAttr]
  refine hK _ ?_
  clear hK K
  try refine vthen_n ?_
  repeat refine VW.seq ?_
  refine VW.cond rfl (fun hc => ?_) (fun hc => ?_)
  ·repeat refine VW.seq ?_
   refine VW.regl hT fun K hK => ?_
   simp only [wq, simprocAttr]
   refine hK _ ?_
   clear hK K
   try refine vthen_n ?_
   refine VW.ret ⟨.inl rfl, _, rfl, _, rfl, .inr ⟨i, hlt, rfl, hc, hk⟩⟩
  ·refine VW.skip ?_
   show vthen _ _ _ .normal _
   refine vthen_n ?_
   repeat refine VW.seq ?_
   refine VW.regl hT fun K hK => ?_
   simp only [wq, simprocAttr]
   refine hK _ ?_
   clear hK K
   try refine vthen_n ?_
   refine ⟨i + 1, ⟨hlt, fun k h => ?_⟩, ?_, by show xs.length - (i + 1) < xs.length - i; omega⟩
   ·rcases Nat.lt_or_ge k i with h1 | h1
    ·exact hk k h1
    ·obtain rfl : k = i := by omega
     exact hc
   ·simp only [capOut_any hcap, wn, wq, simprocAttr]
    rw [wrap64 (by omega) (by omega)]
    rfl
 ·have hc : xs.length ≤ i := by simpa using hc
  refine VW.exit ?_
  show vthen _ _ _ .normal _
  refine vthen_n ?_
  repeat refine VW.seq ?_
  refine VW.regl hT fun K hK => ?_
  simp only [wq, simprocAttr]
  refine hK _ ?_
  clear hK K
  try refine vthen_n ?_
  refine VW.ret ⟨.inl rfl, _, rfl, _, rfl, .inl ⟨rfl, fun k h => hk k (by omega)⟩⟩
theorem IdxI.any {p : Int → Bool} {xs : List Int} {m : Int} (h : IdxI p xs m) : decide (m ≥ 0) = xs.any p := by
 rcases h with ⟨rfl, h⟩ | ⟨i, h1, rfl, h2, _⟩
 ·have : xs.any p = false := by
   rw [List.any_eq_false]
   intro x hx
   obtain ⟨k, hk, rfl⟩ := List.mem_iff_getElem.1 hx
   have := h k hk
   rw [List.getD_eq_getElem?_getD, List.getElem?_eq_getElem hk] at this
   simpa using this
  rw [this]; rfl
 ·have : xs.any p = true := by
   rw [List.any_eq_true]
   refine ⟨xs[i], List.getElem_mem h1, ?_⟩
   rw [List.getD_eq_getElem?_getD, List.getElem?_eq_getElem h1] at h2
   exact h2
  rw [this]; simp
theorem containsI_vc (xs : List Int) (f : FuncId) (caps : List Cap) (p : Int → Bool) (hcap : caps.any isAdr = false) (hp : ∀ x, VC Tryz.prog f (.v false (.int .i64) (x) :: caps.map capPV) (· = .v false .bool (p x))) (hl : xs.length ≤ 2000000) :
  VC Tryz.prog 122 [.v false sI xs, .fn f caps] (· = .v false .bool (xs.any p)) := by
 refine VC.of_body hT Tryz.func122 rfl (by kernel_rfl) [(.tmp 4, false, .bool)] (by kernel_rfl) ?_
 show VW _ _ ([.v false sI xs, .fn f caps, D, D, D, D, D, D, D]) _
 repeat refine VW.seq ?_
 refine VW.regl hT fun K hK => ?_
 simp only [wq, simprocAttr]
 refine hK _ ?_
 clear hK K
 try refine vthen_n ?_
 repeat refine VW.seq ?_
 refine VW.regl hT fun K hK => ?_
 simp only [wq, simprocAttr]
 simp only [lendCaps_all _ caps hcap, wq, simprocAttr]
 refine vcall_ex (indexI_vc xs f caps p hcap hp hl) ?_
 rintro pv ⟨m, rfl, hm⟩
 rw [hcap]
 simp only [wq, simprocAttr]
 refine hK _ ?_
 clear hK K
 try refine vthen_n ?_
 refine VW.ret ⟨.inl rfl, _, rfl, ?_⟩
 rw [← hm.any]
theorem cloneI_vc (t : List Int) (hl : t.length ≤ 2000000) : VC Tryz.prog 104 [.v false sI t] (· = .root (.val false) sI .own t) := by
 refine VC.of_body hT Tryz.func104 rfl (by kernel_rfl) [(.tmp 2, false, sI)] (by kernel_rfl) ?_
 show VW _ _ ([.v false sI t, D, D, D, D, D, D, D]) _
 repeat refine VW.seq ?_
 refine VW.regl hT fun K hK => ?_
 simp only [wq, simprocAttr]
 refine hK _ ?_
 clear hK K
 try refine vthen_n ?_
 repeat refine VW.seq ?_
 refine VW.regl hT fun K hK => ?_
 simp only [wq, simprocAttr]
 intro b hb
 refine hK _ ?_
 clear hK K
 try refine vthen_n ?_
 repeat refine VW.seq ?_
 refine VW.cond rfl (fun hc => ?_) (fun hc => ?_)
 ·repeat refine VW.seq ?_
  refine VW.regl hT fun K hK => ?_
  simp only [wq, simprocAttr]
  refine hK _ ?_
  clear hK K
  try refine vthen_n ?_
  refine VW.ret ⟨.inl rfl, _, rfl, ?_⟩
  have : t = [] := by
   rcases Nat.eq_zero_or_pos t.length with h | h
   ·exact List.eq_nil_of_length_eq_zero h
   ·have := hb h; rw [this] at hc; cases hc
  subst this; rfl
 ·refine VW.skip (vthen_n ?_)
  repeat refine VW.seq ?_
  refine VW.regl hT fun K hK => ?_
  simp only [wq, simprocAttr]
  refine ⟨by simp [limOk]; omega, ?_⟩
  refine hK _ ?_
  clear hK K
  try refine vthen_n ?_
  exact VW.ret ⟨.inl rfl, _, rfl, rfl⟩
end Go.Proofs.YtoeblmcibheldaaGreatDoor.V.W
end
section
namespace Go.Proofs.YtoeblmcibheldaaGreatDoor.V.W
open Go Go.RowKit
set_option maxRecDepth 100000 in
theorem len64_vc (n : Int) (h1 : 0 ≤ n) (h2 : n < 256) : VC Tryz.prog 189 [.v false (.int .u64) n] (fun r => ∃ m : Int, r = .v false (.int .i64) (m)) := by
 refine VC.of_body hT Tryz.func189 rfl (by kernel_rfl) [(.tmp 2, false, .int .i64)] (by kernel_rfl) ?_
 show VW _ _ ([.v false (.int .u64) n, D, D, D, D, D, D, D, D, D, D, D, D, D, D, D, D, D, D, D, D, D, D, D, D]) _
 repeat refine VW.seq ?_
 refine VW.regl hT fun K hK => ?_
 simp only [wq, simprocAttr]
 refine hK _ ?_
 clear hK K
 try refine vthen_n ?_
 repeat refine VW.seq ?_
 refine VW.regl hT fun K hK => ?_
 simp only [wq, simprocAttr]
 refine hK _ ?_
 clear hK K
 try refine vthen_n ?_
 repeat refine VW.seq ?_
 refine VW.cond rfl (fun hc => ?_) (fun hc => ?_)
 ·have hc : n ≥ 4294967296 := by simpa using hc
  omega
 refine VW.skip (vthen_n ?_)
 repeat refine VW.seq ?_
 refine VW.regl hT fun K hK => ?_
 simp only [wq, simprocAttr]
 refine hK _ ?_
 clear hK K
 try refine vthen_n ?_
 repeat refine VW.seq ?_
 refine VW.cond rfl (fun hc => ?_) (fun hc => ?_)
 ·have hc : n ≥ 65536 := by simpa using hc
  omega
 refine VW.skip (vthen_n ?_)
 repeat refine VW.seq ?_
 refine VW.regl hT fun K hK => ?_
 simp only [wq, simprocAttr]
 refine hK _ ?_
 clear hK K
 try refine vthen_n ?_
 repeat refine VW.seq ?_
 refine VW.cond rfl (fun hc => ?_) (fun hc => ?_)
 ·have hc : n ≥ 256 := by simpa using hc
  omega
 refine VW.skip (vthen_n ?_)
 repeat refine VW.seq ?_
 refine VW.regl hT fun K hK => ?_
 simp only [wq, simprocAttr]
 have hw : IntKind.u8.wrap n = n := by rw [IntKind.wrap_u8]; omega
 rw [hw]
 refine ⟨decide_eq_true ⟨h1, h2⟩, ?_⟩
 refine hK _ ?_
 clear hK K
 try refine vthen_n ?_
 exact VW.ret ⟨.inl rfl, _, rfl, _, rfl⟩
theorem len_vc (n : Int) (h1 : 0 ≤ n) (h2 : n < 256) : VC Tryz.prog 217 [.v false (.int .u64) n] (fun r => ∃ m : Int, r = .v false (.int .i64) (m)) := by
 refine VC.of_body hT Tryz.func217 rfl (by kernel_rfl) [(.tmp 2, false, .int .i64)] (by kernel_rfl) ?_
 show VW _ _ ([.v false (.int .u64) n, D, D, D, D, D, D, D]) _
 repeat refine VW.seq ?_
 refine VW.regl hT fun K hK => ?_
 simp only [wq, simprocAttr]
 refine hK _ ?_
 clear hK K
 try refine vthen_n ?_
 repeat refine VW.seq ?_
 refine VW.cond rfl (fun hc => ?_) (fun hc => ?_)
 ·cases hc
 refine VW.skip (vthen_n ?_)
 repeat refine VW.seq ?_
 refine VW.regl hT fun K hK => ?_
 simp only [wq, simprocAttr]
 refine vcall_ex (len64_vc n h1 h2) ?_
 rintro pv ⟨m, rfl⟩
 simp only [wq, simprocAttr]
 refine hK _ ?_
 clear hK K
 try refine vthen_n ?_
 exact VW.ret ⟨.inl rfl, _, rfl, _, rfl⟩
theorem isort_len (c : Int → Int → Int) (xs : List Int) : (isort c xs).length = xs.length := by
 rw [isort, List.length_reverse, pre_len c xs _ (Nat.le_refl _)]
set_option maxRecDepth 20000 in
theorem pdq_vx (xs : List Int) (f : FuncId) (sc : Sh) (xc : sc.ty) (c : Int → Int → Int) (m : Int) (hp : ∀ a b, a ∈ xs → b ∈ xs → VC Tryz.prog f [.v false (.int .i64) (a), .v false (.int .i64) (b), .fadr sc xc] (· = .v false (.int .i64) (c a b))) (h0 : 0 < xs.length) (hl : xs.length ≤ 12) :
  VX Tryz.prog 216 [.root (.val false) sI .own xs, .v false (.int .i64) (0), .v false (.int .i64) (xs.length), .v false (.int .i64) (m), .fn f [.fadr sc xc]] 0 (fun pv ot => pv = nil0 ∧ ot = .root (.val false) sI .own (isort c xs)) := by
 refine VX.of_rows hT Tryz.func216 rfl (by kernel_rfl) [] (by kernel_rfl) rfl rfl h0 fun l fi li e1 e2 => ?_
 obtain ⟨n, cp, rfl, rfl⟩ := io1 e1 e2
 show VW _ _ ([.root (.val false) sI (.io n cp) xs, .v false (.int .i64) (0), .v false (.int .i64) (xs.length), .v false (.int .i64) (m), .fn f [.fadr sc xc], D, D, D, D, D, D, D, D, D, D, D, D, D, D, D, D, D, D, D, D, D, D, D, D, D, D, D, D, D, D, D, D, D, D, D, D, D, D, D, D, D, D, D, D, D, D, D, D, D, D, D, D, D, D, D, D, D, D, D, D, D, D, D, D, D, D, D, D, D, D, D, D, D, D, D, D, D, D, D, D, D, D, D, D, D, D, D, D, D, D, D, D, D, D, D, D, D, D, D, D, D, D, D, D, D, D, D, D, D, D, D, D, D, D, D, D, D, D, D, D, D, D, D, D, D, D, D, D, D, D, D, D, D, D, D, D, D, D, D, D, D, D, D]) _
 repeat refine VW.seq ?_
 refine VW.regl hT fun K hK => ?_
 simp only [wq, simprocAttr]
 refine hK _ ?_
 clear hK K
 try refine vthen_n ?_
 repeat refine VW.seq ?_
 refine VW.regl hT fun K hK => ?_
 simp only [wq, simprocAttr]
 refine hK _ ?_
 clear hK K
 try refine vthen_n ?_
 repeat refine VW.seq ?_
 refine VW.block ?_
 refine VW.loop (α := Unit) [(0, none), (1, none), (2, none), (3, none), (4, none)] (fun _ => [.root (.val false) sI (.io n cp) xs, .v false (.int .i64) (0), .v false (.int .i64) (xs.length), .v false (.int .i64) (m), .fn f [.fadr sc xc], D, D, D, D, D, D, D, D, D, D, D, D, D, D, D, D, D, D, D, D, D, D, D, D, D, D, D, D, D, D, D, D, D, D, D, D, D, D, D, D, D, D, D, D, D, D, D, D, D, D, D, D, D, D, D, D, D, D, D, D, D, D, D, D, D, D, D, D, D, D, D, D, D, D, D, D, D, D, D, D, D, D, D, D, D, D, D, D, D, D, D, D, D, D, D, D, D, D, D, D, D, D, D, D, D, D, D, D, D, D, D, D, D, D, D, D, D, D, D, D, D, D, D, D, D, D, D, D, D, D, D, D, D, D, D, D, D, D, D, D, D, D, D]) (fun _ => True) (fun _ => 0) ⟨(), trivial, ?_⟩ fun _ _ => ?_
 ·simp only [wn, wq, simprocAttr]
 repeat refine VW.seq ?_
 refine VW.block ?_
 repeat refine VW.seq ?_
 refine VW.regl hT fun K hK => ?_
 simp only [wq, simprocAttr]
 refine hK _ ?_
 clear hK K
 try refine vthen_n ?_
 rw [wrap64 (by omega) (by omega), Int.sub_zero]
 repeat refine VW.seq ?_
 refine VW.regl hT fun K hK => ?_
 simp only [wq, simprocAttr]
 refine hK _ ?_
 clear hK K
 try refine vthen_n ?_
 repeat refine VW.seq ?_
 refine VW.cond rfl (fun hc => ?_) (fun hc => ?_)
 ·repeat refine VW.seq ?_
  refine VW.regl hT fun K hK => ?_
  simp only [wq, simprocAttr]
  refine vcall_io 0 ?_
  simp only [wq, simprocAttr]
  refine vxcall_of (VX.tag1 (insSort_vx xs f sc xc c hp h0 (by omega)) rfl rfl rfl (by show some [Value.slice (some ⟨n, 0, none⟩) (isort c xs).length cp] = _; rw [isort_len])) ?_
  simp only [wq, simprocAttr]
  refine hK _ ?_
  clear hK K
  try refine vthen_n ?_
  refine VW.ret ⟨.inl rfl, _, _, _, _, rfl, ⟨0, _, rfl⟩, ?_, rfl, rfl⟩
  show some [Value.slice (some ⟨n, 0, none⟩) (isort c xs).length cp] = some [Value.slice (some ⟨n, 0, none⟩) xs.length cp]
  rw [isort_len]
 ·have : ¬ ((xs.length : Int) ≤ 12) := by simpa using hc
  omega
set_option maxRecDepth 20000 in
theorem sort_vx (xs : List Int) (f : FuncId) (sc : Sh) (xc : sc.ty) (c : Int → Int → Int) (hp : ∀ a b, a ∈ xs → b ∈ xs → VC Tryz.prog f [.v false (.int .i64) (a), .v false (.int .i64) (b), .fadr sc xc] (· = .v false (.int .i64) (c a b))) (h0 : 0 < xs.length) (hl : xs.length ≤ 12) :
  VX Tryz.prog 184 [.root (.val false) sI .own xs, .fn f [.fadr sc xc]] 0 (fun pv ot => pv = nil0 ∧ ot = .root (.val false) sI .own (isort c xs)) := by
 refine VX.of_rows hT Tryz.func184 rfl (by kernel_rfl) [] (by kernel_rfl) rfl rfl h0 fun l fi li e1 e2 => ?_
 obtain ⟨n, cp, rfl, rfl⟩ := io1 e1 e2
 show VW _ _ ([.root (.val false) sI (.io n cp) xs, .fn f [.fadr sc xc], D, D, D, D, D, D, D, D, D, D, D, D]) _
 repeat refine VW.seq ?_
 refine VW.regl hT fun K hK => ?_
 simp only [wq, simprocAttr]
 refine hK _ ?_
 clear hK K
 try refine vthen_n ?_
 repeat refine VW.seq ?_
 refine VW.regl hT fun K hK => ?_
 simp only [wq, simprocAttr]
 have hw : IntKind.u64.wrap (xs.length : Int) = xs.length := by simp [IntKind.wrap, IntKind.bits, IntKind.signed]; omega
 rw [hw]
 refine vcall_ex (len_vc _ (by omega) (by omega)) ?_
 rintro pv ⟨m, rfl⟩
 simp only [wq, simprocAttr]
 refine vcall_io 0 ?_
 simp only [wq, simprocAttr]
 refine vxcall_of (VX.tag1 (pdq_vx xs f sc xc c m hp h0 hl) rfl rfl rfl (by show some [Value.slice (some ⟨n, 0, none⟩) (isort c xs).length cp] = _; rw [isort_len])) ?_
 simp only [wq, simprocAttr]
 refine hK _ ?_
 clear hK K
 try refine vthen_n ?_
 refine ⟨.inr rfl, _, _, _, _, rfl, ⟨0, _, rfl⟩, ?_, rfl, rfl⟩
 show some [Value.slice (some ⟨n, 0, none⟩) (isort c xs).length cp] = some [Value.slice (some ⟨n, 0, none⟩) xs.length cp]
 rw [isort_len]
/-- nothing to sort -/
theorem insSort0_vc (f : FuncId) (sc : Sh) (xc : sc.ty) : VC Tryz.prog 229 [.v false sI [], .v false (.int .i64) (0), .v false (.int .i64) (0), .fn f [.fadr sc xc]] (· = nil0) := by
 refine VC.of_body hT Tryz.func229 rfl (by kernel_rfl) [] (by kernel_rfl) ?_
 show VW _ _ ([.v false sI [], .v false (.int .i64) (0), .v false (.int .i64) (0), .fn f [.fadr sc xc], D, D, D, D, D, D, D, D, D, D, D, D, D, D, D, D, D, D, D, D, D, D, D, D, D, D, D, D, D, D, D, D, D, D, D, D, D, D, D, D, D, D, D, D, D, D, D, D, D]) _
 repeat refine VW.seq ?_
 refine VW.regl hT fun K hK => ?_
 simp only [wq, simprocAttr]
 refine hK _ ?_
 clear hK K
 try refine vthen_n ?_
 repeat refine VW.seq ?_
 refine VW.block ?_
 refine VW.loop (α := Unit) [(2, none), (8, none)] (fun _ => [D, D, .v false (.int .i64) (0), D, D, D, D, D, .v false (.int .i64) (1), D, D, D, D, D, D, D, D, D, D, D, D, D, D, D, D, D, D, D, D, D, D, D, D, D, D, D, D, D, D, D, D, D, D, D, D, D, D, D, D, D, D, D, D]) (fun _ => True) (fun _ => 0) ⟨(), trivial, ?_⟩ fun _ _ => ?_
 ·simp only [wn, wq, simprocAttr]
  try rfl
 repeat refine VW.seq ?_
 refine VW.regl hT fun K hK => ?_
 simp only [wq, simprocAttr]
 refine hK _ ?_
 clear hK K
 try refine vthen_n ?_
 repeat refine VW.seq ?_
 refine VW.cond rfl (fun hc => ?_) (fun hc => ?_)
 ·cases hc
 ·refine VW.exit ?_
  exact ⟨.inr rfl, _, rfl, rfl⟩
set_option maxRecDepth 20000 in
theorem pdq0_vc (f : FuncId) (sc : Sh) (xc : sc.ty) (m : Int) : VC Tryz.prog 216 [.v false sI [], .v false (.int .i64) (0), .v false (.int .i64) (0), .v false (.int .i64) (m), .fn f [.fadr sc xc]] (· = nil0) := by
 refine VC.of_body hT Tryz.func216 rfl (by kernel_rfl) [] (by kernel_rfl) ?_
 show VW _ _ ([.v false sI [], .v false (.int .i64) (0), .v false (.int .i64) (0), .v false (.int .i64) (m), .fn f [.fadr sc xc], D, D, D, D, D, D, D, D, D, D, D, D, D, D, D, D, D, D, D, D, D, D, D, D, D, D, D, D, D, D, D, D, D, D, D, D, D, D, D, D, D, D, D, D, D, D, D, D, D, D, D, D, D, D, D, D, D, D, D, D, D, D, D, D, D, D, D, D, D, D, D, D, D, D, D, D, D, D, D, D, D, D, D, D, D, D, D, D, D, D, D, D, D, D, D, D, D, D, D, D, D, D, D, D, D, D, D, D, D, D, D, D, D, D, D, D, D, D, D, D, D, D, D, D, D, D, D, D, D, D, D, D, D, D, D, D, D, D, D, D, D, D, D]) _
 repeat refine VW.seq ?_
 refine VW.regl hT fun K hK => ?_
 simp only [wq, Nat.reduceMul, reduceCtorEq, Nat.reduceBEq, Nat.reduceAdd, Nat.reduceLT, Nat.reduceLeDiff, Nat.reduceSub, Nat.reduceEqDiff]
 refine hK _ ?_
 clear hK K
 try refine vthen_n ?_
 repeat refine VW.seq ?_
 refine VW.regl hT fun K hK => ?_
 simp only [wq, Nat.reduceMul, reduceCtorEq, Nat.reduceBEq, Nat.reduceAdd, Nat.reduceLT, Nat.reduceLeDiff, Nat.reduceSub, Nat.reduceEqDiff]
 refine hK _ ?_
 clear hK K
 try refine vthen_n ?_
 repeat refine VW.seq ?_
 refine VW.block ?_
 refine VW.loop (α := Unit) [(0, none), (1, none), (2, none), (3, none), (4, none)] (fun _ => [.v false sI [], .v false (.int .i64) (0), .v false (.int .i64) (0), .v false (.int .i64) (m), .fn f [.fadr sc xc], D, D, D, D, D, D, D, D, D, D, D, D, D, D, D, D, D, D, D, D, D, D, D, D, D, D, D, D, D, D, D, D, D, D, D, D, D, D, D, D, D, D, D, D, D, D, D, D, D, D, D, D, D, D, D, D, D, D, D, D, D, D, D, D, D, D, D, D, D, D, D, D, D, D, D, D, D, D, D, D, D, D, D, D, D, D, D, D, D, D, D, D, D, D, D, D, D, D, D, D, D, D, D, D, D, D, D, D, D, D, D, D, D, D, D, D, D, D, D, D, D, D, D, D, D, D, D, D, D, D, D, D, D, D, D, D, D, D, D, D, D, D, D]) (fun _ => True) (fun _ => 0) ⟨(), trivial, ?_⟩ fun _ _ => ?_
 ·simp only [wn, wq, Nat.reduceMul, reduceCtorEq, Nat.reduceBEq, Nat.reduceAdd, Nat.reduceLT, Nat.reduceLeDiff, Nat.reduceSub, Nat.reduceEqDiff]
 repeat refine VW.seq ?_
 refine VW.block ?_
 repeat refine VW.seq ?_
 refine VW.regl hT fun K hK => ?_
 simp only [wq, Nat.reduceMul, reduceCtorEq, Nat.reduceBEq, Nat.reduceAdd, Nat.reduceLT, Nat.reduceLeDiff, Nat.reduceSub, Nat.reduceEqDiff]
 refine hK _ ?_
 clear hK K
 try refine vthen_n ?_
 rw [wrap64 (by omega) (by omega), Int.sub_zero]
 repeat refine VW.seq ?_
 refine VW.regl hT fun K hK => ?_
 simp only [wq, Nat.reduceMul, reduceCtorEq, Nat.reduceBEq, Nat.reduceAdd, Nat.reduceLT, Nat.reduceLeDiff, Nat.reduceSub, Nat.reduceEqDiff]
 refine hK _ ?_
 clear hK K
 try refine vthen_n ?_
 repeat refine VW.seq ?_
 refine VW.cond rfl (fun hc => ?_) (fun hc => ?_)
 ·repeat refine VW.seq ?_
  refine VW.regl hT fun K hK => ?_
  simp only [wq, Nat.reduceMul, reduceCtorEq, Nat.reduceBEq, Nat.reduceAdd, Nat.reduceLT, Nat.reduceLeDiff, Nat.reduceSub, Nat.reduceEqDiff]
  refine vcall_of (insSort0_vc f sc xc) ?_
  simp only [wq, Nat.reduceMul, reduceCtorEq, Nat.reduceBEq, Nat.reduceAdd, Nat.reduceLT, Nat.reduceLeDiff, Nat.reduceSub, Nat.reduceEqDiff]
  refine hK _ ?_
  clear hK K
  try refine vthen_n ?_
  exact VW.ret ⟨.inl rfl, _, rfl, rfl⟩
 ·have : ¬ ((0 : Int) ≤ 12) := by simpa using hc
  omega
theorem sort0_vc (f : FuncId) (sc : Sh) (xc : sc.ty) : VC Tryz.prog 184 [.v false sI [], .fn f [.fadr sc xc]] (· = nil0) := by
 refine VC.of_body hT Tryz.func184 rfl (by kernel_rfl) [] (by kernel_rfl) ?_
 show VW _ _ ([.v false sI [], .fn f [.fadr sc xc], D, D, D, D, D, D, D, D, D, D, D, D]) _
 repeat refine VW.seq ?_
 refine VW.regl hT fun K hK => ?_
 simp only [wq, Nat.reduceMul, reduceCtorEq, Nat.reduceBEq, Nat.reduceAdd, Nat.reduceLT, Nat.reduceLeDiff, Nat.reduceSub, Nat.reduceEqDiff]
 refine hK _ ?_
 clear hK K
 try refine vthen_n ?_
 repeat refine VW.seq ?_
 refine VW.regl hT fun K hK => ?_
 simp only [wq, Nat.reduceMul, reduceCtorEq, Nat.reduceBEq, Nat.reduceAdd, Nat.reduceLT, Nat.reduceLeDiff, Nat.reduceSub, Nat.reduceEqDiff]
 have hw : IntKind.u64.wrap ((0 : Nat) : Int) = 0 := by simp [IntKind.wrap, IntKind.bits, IntKind.signed]
 rw [hw]
 refine vcall_ex (len_vc _ (by omega) (by omega)) ?_
 rintro pv ⟨m, rfl⟩
 simp only [wq, Nat.reduceMul, reduceCtorEq, Nat.reduceBEq, Nat.reduceAdd, Nat.reduceLT, Nat.reduceLeDiff, Nat.reduceSub, Nat.reduceEqDiff]
 refine vcall_of (pdq0_vc f sc xc m) ?_
 simp only [wq, Nat.reduceMul, reduceCtorEq, Nat.reduceBEq, Nat.reduceAdd, Nat.reduceLT, Nat.reduceLeDiff, Nat.reduceSub, Nat.reduceEqDiff]
 refine hK _ ?_
 clear hK K
 try refine vthen_n ?_
 exact ⟨.inr rfl, _, rfl, rfl⟩
end Go.Proofs.YtoeblmcibheldaaGreatDoor.V.W
end
section
namespace Go.Proofs.YtoeblmcibheldaaGreatDoor.V.W
open Go Go.RowKit
/-- the nodes below k among the first i -/
def kids (t : List Nd) (k : Int) (i : Nat) : List Int := ((List.range i).filter fun j : Nat => (t.getD j z).1 == k).map fun j : Nat => (j : Int)
theorem kids_succ (t : List Nd) (k : Int) (i : Nat) : kids t k (i + 1) = kids t k i ++ (if ((t.getD i z).1 == k) = true then [(i : Int)] else []) := by
 unfold kids
 rw [List.range_succ, List.filter_append, List.map_append]
 congr 1
 simp only [List.filter_cons, List.filter_nil]
 split <;> rfl
theorem kids_mem {t : List Nd} {k : Int} {i : Nat} {a : Int} (h : a ∈ kids t k i) : 0 ≤ a ∧ a < i := by
 unfold kids at h
 obtain ⟨j, h1, rfl⟩ := List.mem_map.1 h
 have := List.mem_range.1 (List.mem_filter.1 h1).1
 omega
theorem kids_len (t : List Nd) (k : Int) (i : Nat) : (kids t k i).length ≤ i := by
 unfold kids
 rw [List.length_map]
 have := List.length_filter_le (fun j : Nat => (t.getD j z).1 == k) (List.range i)
 rwa [List.length_range] at this
def byDev (t : List Nd) (a b : Int) : Int := cmpI (t.getD a.toNat z).2.1 (t.getD b.toNat z).2.1
def children (t : List Nd) (k : Int) : List Int := if (treeOk t && inB k 0 (t.length - 1)) = true then isort (byDev t) (kids t k t.length) else []
theorem children1_vc (t : List Nd) (a b : Int) (h1 : 0 ≤ a ∧ a < t.length) (h2 : 0 ≤ b ∧ b < t.length) : VC Tryz.prog 215 [.v false (.int .i64) (a), .v false (.int .i64) (b), .fadr sNS t] (· = .v false (.int .i64) (byDev t a b)) := by
 refine VC.of_body hT Tryz.func215 rfl (by kernel_rfl) [(.tmp 5, false, .int .i64)] (by kernel_rfl) ?_
 show VW _ _ ([.v false (.int .i64) (a), .v false (.int .i64) (b), .fadr sNS t, D, D, D, D, D, D, D, D, D, D, D, D, D, D]) _
 repeat refine VW.seq ?_
 refine VW.regl hT fun K hK => ?_
 simp only [wq, simprocAttr]
 refine hK _ ?_
 clear hK K
 try refine vthen_n ?_
 repeat refine VW.seq ?_
 refine VW.mixl hT hm 0 11 (by kernel_rfl) fun K hK => ?_
 simp only [wq, simprocAttr]
 refine ⟨decide_eq_true h1, decide_eq_true h2, ?_⟩
 refine vcallD_of (compare_vc _ _) ?_
 simp only [wq, simprocAttr]
 refine hK _ ?_
 clear hK K
 try refine vthen_n ?_
 exact VW.ret ⟨.inl rfl, _, rfl, rfl⟩
set_option maxRecDepth 20000 in
theorem children_vc (t : List Nd) (k : Int) (hl : t.length ≤ 2000000) : VC Tryz.prog 183 [.v false sNS t, .v false (.int .i64) (k)] (· = .root (.val false) sI .own (children t k)) := by
 refine VC.of_body hT Tryz.func183 rfl (by kernel_rfl) [(.tmp 4, false, sI)] (by kernel_rfl) ?_
 show VW _ _ ([.v false sNS t, .v false (.int .i64) (k), D, D, D, D, D, D, D, D, D, D, D, D, D, D, D, D, D, D, D, D, D, D, D, D, D, D, D, D, D, D, D, D]) _
 repeat refine VW.seq ?_
 refine VW.regl hT fun K hK => ?_
 simp only [wq, simprocAttr]
 refine hK _ ?_
 clear hK K
 try refine vthen_n ?_
 repeat refine VW.seq ?_
 refine VW.regl hT fun K hK => ?_
 simp only [wq, simprocAttr]
 refine hK _ ?_
 clear hK K
 try refine vthen_n ?_
 repeat refine VW.seq ?_
 refine VW.regl hT fun K hK => ?_
 simp only [wq, simprocAttr]
 refine vcall_of (isNode_vc t k hl) ?_
 simp only [wq, simprocAttr]
 refine hK _ ?_
 clear hK K
 try refine vthen_n ?_
 repeat refine VW.seq ?_
 refine VW.cond rfl (fun hc => ?_) (fun hc => ?_)
 ·repeat refine VW.seq ?_
  refine VW.regl hT fun K hK => ?_
  simp only [wq, simprocAttr]
  refine hK _ ?_
  clear hK K
  try refine vthen_n ?_
  refine VW.ret ⟨.inl rfl, _, rfl, ?_⟩
  have hc : (treeOk t && inB k 0 (t.length - 1)) = false := (Bool.not_eq_true' _).mp hc
  simp only [children, hc, Bool.false_eq_true, if_false]
  rfl
 have hok : (treeOk t && inB k 0 (t.length - 1)) = true := by simpa using hc
 have hlen : (t.length : Int) ≤ 12 := by
  simp only [Bool.and_eq_true, treeOk] at hok
  exact (inB_iff.1 hok.1.1).2
 refine VW.skip (vthen_n ?_)
 repeat refine VW.seq ?_
 refine VW.regl hT fun K hK => ?_
 simp only [wq, simprocAttr]
 refine hK _ ?_
 clear hK K
 try refine vthen_n ?_
 repeat refine VW.seq ?_
 refine VW.block ?_
 refine VW.loop (α := Nat) [(1, none), (2, none), (5, some (3, .int .i64)), (14, none), (15, none), (16, none)] (fun i => [D, .v false (.int .i64) (k), .root (.box 24) sNS .fz t, D, D, .root (.val false) sI .own (kids t k i), D, D, D, D, D, D, D, D, .v false sNS t, .v false (.int .i64) (t.length), .v false (.int .i64) (i), D, D, D, D, D, D, D, D, D, D, D, D, D, D, D, D, D]) (fun i => i ≤ t.length) (fun i => t.length - i) ⟨0, by omega, ?_⟩ fun i hi => ?_
 ·simp only [wn, wq, simprocAttr]
  try rfl
 repeat refine VW.seq ?_
 refine VW.regl hT fun K hK => ?_
 simp only [wq, simprocAttr]
 refine hK _ ?_
 clear hK K
 try refine vthen_n ?_
 repeat refine VW.seq ?_
 refine VW.cond rfl (fun hc => ?_) (fun hc => ?_)
 ·have hlt : i < t.length := by simpa using hc
  have hkl := kids_len t k i
  refine VW.skip (vthen_n ?_)
  repeat refine VW.seq ?_
  refine VW.block ?_
  repeat refine VW.seq ?_
  refine VW.regl hT fun K hK => ?_
  simp only [wq, simprocAttr]
  refine ⟨by simp; omega, ?_⟩
  refine hK _ ?_
  clear hK K
  try refine vthen_n ?_
  repeat refine VW.seq ?_
  refine VW.regl hT fun K hK => ?_
  simp only [wq, simprocAttr]
  refine hK _ ?_
  clear hK K
  try refine vthen_n ?_
  repeat refine VW.seq ?_
  refine VW.cond rfl (fun hc => ?_) (fun hc => ?_)
  ·repeat refine VW.seq ?_
   refine VW.regl hT fun K hK => ?_
   simp only [wq, simprocAttr]
   refine ⟨by simp [limOk]; omega, ?_⟩
   refine hK _ ?_
   clear hK K
   try refine vthen_n ?_
   show vthen _ _ _ .normal _
   refine vthen_n ?_
   repeat refine VW.seq ?_
   refine VW.regl hT fun K hK => ?_
   simp only [wq, simprocAttr]
   refine hK _ ?_
   clear hK K
   try refine vthen_n ?_
   refine ⟨i + 1, hlt, ?_, by show t.length - (i + 1) < t.length - i; omega⟩
   simp only [wn, wq, simprocAttr]
   rw [wrap64 (by omega) (by omega), kids_succ, if_pos (by simpa using hc)]
   rfl
  ·refine VW.skip ?_
   show vthen _ _ _ .normal _
   refine vthen_n ?_
   repeat refine VW.seq ?_
   refine VW.regl hT fun K hK => ?_
   simp only [wq, simprocAttr]
   refine hK _ ?_
   clear hK K
   try refine vthen_n ?_
   refine ⟨i + 1, hlt, ?_, by show t.length - (i + 1) < t.length - i; omega⟩
   simp only [wn, wq, simprocAttr]
   rw [wrap64 (by omega) (by omega), kids_succ, if_neg (by simpa using hc), List.append_nil]
   rfl
 ·have hge : t.length ≤ i := by simpa using hc
  obtain rfl : i = t.length := by omega
  have hkl := kids_len t k t.length
  refine VW.exit ?_
  show vthen _ _ _ .normal _
  refine vthen_n ?_
  rcases Nat.eq_zero_or_pos (kids t k t.length).length with h0 | h0
  ·have h0 := List.eq_nil_of_length_eq_zero h0
   rw [h0]
   repeat refine VW.seq ?_
   refine VW.regl hT fun K hK => ?_
   simp only [wq, simprocAttr]
   refine vcall_of (sort0_vc 215 sNS t) ?_
   simp only [wq, simprocAttr]
   refine hK _ ?_
   clear hK K
   try refine vthen_n ?_
   repeat refine VW.seq ?_
   refine VW.regl hT fun K hK => ?_
   simp only [wq, simprocAttr]
   refine hK _ ?_
   clear hK K
   try refine vthen_n ?_
   refine VW.ret ⟨.inl rfl, _, rfl, ?_⟩
   simp only [children, hok, if_true, h0]
   rfl
  ·repeat refine VW.seq ?_
   refine VW.regl hT fun K hK => ?_
   simp only [wq, simprocAttr]
   refine vcall_io 0 ?_
   simp only [wq, simprocAttr]
   refine vxcall_of (sort_vx (kids t k t.length) 215 sNS t (byDev t) (fun a b ha hb => children1_vc t a b (kids_mem ha) (kids_mem hb)) h0 (by omega)) ?_
   simp only [wq, simprocAttr]
   refine hK _ ?_
   clear hK K
   try refine vthen_n ?_
   repeat refine VW.seq ?_
   refine VW.regl hT fun K hK => ?_
   simp only [wq, simprocAttr]
   refine hK _ ?_
   clear hK K
   try refine vthen_n ?_
   refine VW.ret ⟨.inl rfl, _, rfl, ?_⟩
   simp only [children, hok, if_true]
end Go.Proofs.YtoeblmcibheldaaGreatDoor.V.W
end
section
namespace Go.Proofs.YtoeblmcibheldaaGreatDoor.V.W
open Go Go.RowKit
theorem ins_perm (c : Int → Int → Int) (x : Int) : ∀ P : List Int, (ins c x P).Perm (x :: P)
 | [] => .refl _
 | y :: r => by
  unfold ins
  split
  ·exact ((ins_perm c x r).cons y).trans (.swap x y r)
  ·exact .refl _
theorem pre_perm (c : Int → Int → Int) (xs : List Int) : ∀ i : Nat, (pre c xs i).Perm (xs.take i)
 | 0 => by simp [pre]
 | i + 1 => by
  have h := pre_perm c xs i
  unfold pre at h ⊢
  rw [List.take_add_one]
  cases hx : xs[i]? with
  | none => simpa using h
  | some x =>
   rw [Option.toList, List.foldl_append]
   refine (ins_perm c x _).trans ?_
   refine (h.cons x).trans ?_
   exact (List.perm_append_singleton x _).symm
theorem isort_perm (c : Int → Int → Int) (xs : List Int) : (isort c xs).Perm xs := by
 unfold isort
 refine (List.reverse_perm _).trans ?_
 have := pre_perm c xs xs.length
 rwa [List.take_length] at this
theorem nodup_ints {xs : List Nat} (h : xs.Nodup) : (xs.map fun j : Nat => (j : Int)).Nodup :=
 List.Pairwise.map _ (fun a b (hn : a ≠ b) => show (a : Int) ≠ (b : Int) by omega) h
theorem kids_nodup (t : List Nd) (k : Int) (i : Nat) : (kids t k i).Nodup := by
 unfold kids
 exact nodup_ints (List.nodup_range.sublist List.filter_sublist)
theorem kids_iff {t : List Nd} {k : Int} {i : Nat} {a : Int} : a ∈ kids t k i ↔ 0 ≤ a ∧ a < i ∧ (t.getD a.toNat z).1 = k := by
 unfold kids
 rw [List.mem_map]
 constructor
 ·rintro ⟨j, h1, rfl⟩
  have h2 := List.mem_filter.1 h1
  have := List.mem_range.1 h2.1
  exact ⟨by omega, by omega, by simpa using h2.2⟩
 ·rintro ⟨h1, h2, h3⟩
  exact ⟨a.toNat, List.mem_filter.2 ⟨List.mem_range.2 (by omega), by simpa using h3⟩, by omega⟩
theorem kidsD_iff {t : List Nd} {k : Int} {d i : Nat} {a : Int} : a ∈ kidsD t k d i ↔ 1 ≤ a ∧ a < i ∧ (t.getD a.toNat z).1 = k ∧ (t.getD a.toNat z).2.1 = d := by
 unfold kidsD
 rw [List.mem_map]
 constructor
 ·rintro ⟨j, h1, rfl⟩
  have h2 := List.mem_filter.1 h1
  have := List.mem_range.1 h2.1
  simp only [Bool.and_eq_true, decide_eq_true_eq, beq_iff_eq] at h2
  exact ⟨by omega, by omega, by simpa using h2.2.2.1, by simpa using h2.2.2.2⟩
 ·rintro ⟨h1, h2, h3, h4⟩
  refine ⟨a.toNat, List.mem_filter.2 ⟨List.mem_range.2 (by omega), ?_⟩, by omega⟩
  simp only [Bool.and_eq_true, decide_eq_true_eq, beq_iff_eq]
  exact ⟨by omega, h3, h4⟩
theorem kidsD_nodup (t : List Nd) (k : Int) (d i : Nat) : (kidsD t k d i).Nodup := by
 unfold kidsD
 exact nodup_ints (List.nodup_range.sublist List.filter_sublist)
theorem kidsTo_iff {t : List Nd} {k : Int} {a : Int} : ∀ {d : Nat}, a ∈ kidsTo t k d ↔ ∃ e, e < d ∧ a ∈ kidsD t k e t.length := by
 intro d
 unfold kidsTo
 simp only [List.mem_flatMap, List.mem_range]
theorem kidsTo_nodup (t : List Nd) (k : Int) : ∀ d, (kidsTo t k d).Nodup
 | 0 => by simp [kidsTo]
 | d + 1 => by
  rw [kidsTo_succ]
  refine List.nodup_append.2 ⟨kidsTo_nodup t k d, kidsD_nodup t k d _, fun a ha b hb => ?_⟩
  rintro rfl
  obtain ⟨e, he, h1⟩ := kidsTo_iff.1 ha
  have h1 := (kidsD_iff.1 h1).2.2.2
  have h2 := (kidsD_iff.1 hb).2.2.2
  rw [h1] at h2
  omega
theorem node_ok {t : List Nd} (hok : treeOk t = true) {k : Nat} (hk : k < t.length) : (treeOk t && inB (k : Int) 0 (t.length - 1)) = true := by
 rw [hok, Bool.true_and]
 exact inB_iff.2 ⟨by omega, by omega⟩
theorem children_perm {t : List Nd} (hok : treeOk t = true) {k : Nat} (hk : k < t.length) : (children t k).Perm (kids t k t.length) := by
 rw [children, if_pos (node_ok hok hk)]
 exact isort_perm _ _
theorem kids_pos {t : List Nd} (hok : treeOk t = true) {k : Nat} {a : Int} (h : a ∈ kids t k t.length) : ∃ j : Nat, a = j ∧ 1 ≤ j ∧ j < t.length ∧ (t.getD j z).1 = k ∧ k < j := by
 have h := kids_iff.1 h
 have h0 : a ≠ 0 := by
  rintro rfl
  have h1 := (tree_parts hok).2.1
  rw [show (t.getD (0 : Int).toNat z) = (-1, 0, 0) from h1] at h
  have := h.2.2
  simp at this
 have h1 := tree_node hok (j := a.toNat) (by omega) (by omega)
 exact ⟨a.toNat, by omega, by omega, by omega, h.2.2, by omega⟩
theorem skids_perm {t : List Nd} (hok : treeOk t = true) {k : Nat} (hk : k < t.length) : (skids t k).Perm (kids t k t.length) := by
 rw [skids, if_pos (node_ok hok hk)]
 refine (List.perm_ext_iff_of_nodup (kidsTo_nodup _ _ _) (kids_nodup _ _ _)).2 fun a => ⟨fun h => ?_, fun h => ?_⟩
 ·obtain ⟨e, he, h1⟩ := kidsTo_iff.1 h
  have := kidsD_iff.1 h1
  exact kids_iff.2 ⟨by omega, by omega, this.2.2.1⟩
 ·obtain ⟨j, rfl, h1, h2, h3, h4⟩ := kids_pos hok h
  have hn := tree_node hok h1 h2
  refine kidsTo_iff.2 ⟨(t.getD j z).2.1.toNat, by omega, kidsD_iff.2 ⟨by omega, by omega, h3, ?_⟩⟩
  show (t.getD j z).2.1 = _
  omega
/-- a sum over nodes -/
def wsum (f : Nat → Nat) (xs : List Int) : Nat := (xs.map fun a : Int => f a.toNat).sum
theorem wsum_perm {f : Nat → Nat} {xs ys : List Int} (h : xs.Perm ys) : wsum f xs = wsum f ys := (h.map _).sum_nat
theorem wsum_nil (f : Nat → Nat) : wsum f [] = 0 := rfl
theorem wsum_cons (f : Nat → Nat) (a : Int) (xs : List Int) : wsum f (a :: xs) = f a.toNat + wsum f xs := rfl
theorem wsum_app (f : Nat → Nat) (xs ys : List Int) : wsum f (xs ++ ys) = wsum f xs + wsum f ys := by
 unfold wsum
 rw [List.map_append, List.sum_append_nat]
theorem wsum_take (f : Nat → Nat) {xs : List Int} {i : Nat} (h : i < xs.length) : wsum f (xs.take (i + 1)) = wsum f (xs.take i) + f (xs.getD i 0).toNat := by
 rw [List.take_add_one, List.getElem?_eq_getElem h, wsum_app, List.getD_eq_getElem?_getD, List.getElem?_eq_getElem h]
 rfl
theorem wsum_le (f : Nat → Nat) : ∀ (xs : List Int) (i : Nat), wsum f (xs.take i) ≤ wsum f xs
 | xs, i => by
  have := wsum_app f (xs.take i) (xs.drop i)
  rw [List.take_append_drop] at this
  omega
theorem wsum_ext {f g : Nat → Nat} : ∀ {xs : List Int}, (∀ a, a ∈ xs → f a.toNat = g a.toNat) → wsum f xs = wsum g xs
 | [], _ => rfl
 | a :: xs, h => by
  rw [wsum_cons, wsum_cons, h a (List.mem_cons_self ..), wsum_ext fun b hb => h b (List.mem_cons_of_mem _ hb)]
theorem wsum_bd {f g : Nat → Nat} : ∀ {xs : List Int}, (∀ a, a ∈ xs → f a.toNat ≤ g a.toNat) → wsum f xs ≤ wsum g xs
 | [], _ => Nat.le_refl _
 | a :: xs, h => by
  rw [wsum_cons, wsum_cons]
  exact Nat.add_le_add (h a (List.mem_cons_self ..)) (wsum_bd fun b hb => h b (List.mem_cons_of_mem _ hb))
/-- the least power of two from n on; nothing for nothing -/
def up (n : Nat) : Nat := if n = 0 then 0 else 2 ^ (2 * n - 1).log2
theorem up_eq {n i : Nat} (h1 : 1 ≤ n) (h2 : n ≤ 2 ^ i) (h3 : i = 0 ∨ 2 ^ (i - 1) < n) : up n = 2 ^ i := by
 rw [up, if_neg (by omega), (Nat.log2_eq_iff (by omega)).2]
 rcases h3 with rfl | h3
 ·simp at h2 ⊢
  omega
 ·cases i with
  | zero => simp at h2 ⊢; omega
  | succ i =>
   simp only [Nat.add_sub_cancel] at h3
   rw [Nat.pow_succ] at h2 ⊢
   rw [Nat.pow_succ, Nat.pow_succ]
   omega
theorem up_pow {n : Nat} (h : 1 ≤ n) : ∃ i, up n = 2 ^ i := ⟨_, by rw [up, if_neg (by omega)]⟩
theorem up_le (n : Nat) : n ≤ up n ∧ up n ≤ 2 * n := by
 rcases Nat.eq_zero_or_pos n with rfl | h
 ·simp [up]
 ·rw [up, if_neg (by omega)]
  have h1 := Nat.log2_self_le (n := 2 * n - 1) (by omega)
  have h2 := Nat.lt_log2_self (n := 2 * n - 1)
  rw [Nat.pow_succ] at h2
  omega
/-- the size of a node's window -/
def winF (t : List Nd) (s : List Int) : Nat → Nat → Nat
 | 0, _ => 0
 | f + 1, k => if (t.getD k z).2.2 = 0 then up (wsum (winF t s f) (kids t k t.length)) else (s.getD k 0).toNat
theorem winF_same {t : List Nd} (hok : treeOk t = true) (s : List Int) : ∀ (f g k : Nat), k < t.length → t.length - k ≤ f → t.length - k ≤ g → winF t s f k = winF t s g k
 | 0, g, k, hk, h1, h2 => by omega
 | f + 1, 0, k, hk, h1, h2 => by omega
 | f + 1, g + 1, k, hk, h1, h2 => by
  rw [winF, winF]
  split
  ·congr 1
   refine wsum_ext fun a ha => ?_
   obtain ⟨j, rfl, h3, h4, h5, h6⟩ := kids_pos hok ha
   exact winF_same hok s f g j h4 (by omega) (by omega)
  ·rfl
def win (t : List Nd) (s : List Int) (k : Nat) : Nat := winF t s t.length k
/-- the sum of the windows below a node -/
def ksum (t : List Nd) (s : List Int) (k : Nat) : Nat := wsum (win t s) (kids t k t.length)
theorem win_eq {t : List Nd} (hok : treeOk t = true) (s : List Int) {k : Nat} (hk : k < t.length) : win t s k = if (t.getD k z).2.2 = 0 then up (ksum t s k) else (s.getD k 0).toNat := by
 unfold win ksum
 obtain ⟨n, hn⟩ : ∃ n, t.length = n + 1 := ⟨t.length - 1, by omega⟩
 rw [winF_same hok s t.length (n + 1) k hk (by omega) (by omega), winF]
 split
 ·congr 1
  refine wsum_ext fun a ha => ?_
  obtain ⟨j, rfl, h3, h4, h5, h6⟩ := kids_pos hok ha
  exact winF_same hok s n t.length j h4 (by omega) (by omega)
 ·rfl
theorem sizes_node {t : List Nd} {s : List Int} (h : sizesOk t s = true) {k : Nat} (hk : k < t.length) : s.getD k 0 = 0 ∨ (pw (s.getD k 0) = true ∧ (t.getD k z).2.2 ≠ 0) := by
 have := (sizesOk_iff.1 h).2.2 k hk
 simp only [sizeBad, Bool.and_eq_false_iff, Bool.not_eq_false', beq_iff_eq, Bool.or_eq_false_iff, beq_eq_false_iff_ne] at this
 rcases this with h | ⟨h1, h2⟩
 ·exact .inl h
 ·exact .inr ⟨by simpa using h2, h1⟩
def bd (n : Nat) : Nat := 4096 * 3 ^ n
theorem kids_sum (g : Nat → Nat) (t : List Nd) (k : Int) : ∀ n, wsum g (kids t k n) ≤ ((List.range n).map g).sum
 | 0 => by simp [kids, wsum]
 | n + 1 => by
  rw [kids_succ, wsum_app, List.range_succ, List.map_append, List.sum_append_nat]
  have := kids_sum g t k n
  have e1 : ((List.map g [n]).sum) = g n := by simp
  have e2 : wsum g [(n : Int)] = g n := by simp [wsum]
  split
  ·omega
  ·rw [wsum_nil]; omega
theorem kids_above (g : Nat → Nat) (t : List Nd) (k : Nat) (hk : ∀ a, a ∈ kids t k t.length → k < a.toNat) : wsum g (kids t k t.length) ≤ ((List.range t.length).map fun j => if k < j then g j else 0).sum := by
 refine Nat.le_trans (Nat.le_of_eq ?_) (kids_sum _ t k t.length)
 exact wsum_ext fun a ha => by rw [if_pos (hk a ha)]
theorem bd_sum (n : Nat) : ∀ m, m ≤ n → ∀ k, (2 * ((List.range m).map fun j => if k < j then bd (n - j) else 0).sum) + bd (n + 1 - m) ≤ bd (n - k) ∨ m ≤ k + 1 ∧ ((List.range m).map fun j => if k < j then bd (n - j) else 0).sum = 0
 | 0, _, k => .inr ⟨by omega, rfl⟩
 | m + 1, h, k => by
  rw [List.range_succ, List.map_append, List.sum_append_nat]
  simp only [List.map_cons, List.map_nil, List.sum_cons, List.sum_nil, Nat.add_zero]
  have h3 : bd (n + 1 - m) = 3 * bd (n - m) := by
   rw [show n + 1 - m = (n - m) + 1 by omega, bd, bd, Nat.pow_succ]
   omega
  rw [show n + 1 - (m + 1) = n - m by omega]
  rcases bd_sum n m (by omega) k with h1 | ⟨h1, h2⟩
  ·refine .inl ?_
   split <;> omega
  ·rw [h2]
   split
   ·obtain rfl : m = k + 1 := by omega
    refine .inl ?_
    have : bd (n - k) = 3 * bd (n - (k + 1)) := by
     rw [show n - k = (n - (k + 1)) + 1 by omega, bd, bd, Nat.pow_succ]
     omega
    omega
   ·exact .inr ⟨by omega, rfl⟩
theorem ksum_bd {t : List Nd} (hok : treeOk t = true) {s : List Int} {k : Nat} (hk : k < t.length) (h : ∀ j, k < j → j < t.length → win t s j ≤ bd (t.length - j)) : 2 * ksum t s k ≤ bd (t.length - k) := by
 have h1 : ksum t s k ≤ wsum (fun j => bd (t.length - j)) (kids t k t.length) := by
  refine wsum_bd fun a ha => ?_
  obtain ⟨j, rfl, h3, h4, h5, h6⟩ := kids_pos hok ha
  exact h j h6 h4
 have h2 := kids_above (fun j => bd (t.length - j)) t k fun a ha => by
  obtain ⟨j, rfl, h3, h4, h5, h6⟩ := kids_pos hok ha
  omega
 rcases bd_sum t.length t.length (Nat.le_refl _) k with h3 | ⟨h3, h4⟩ <;> omega
theorem win_bd {t : List Nd} {s : List Int} (hs : sizesOk t s = true) : ∀ (f k : Nat), t.length - k ≤ f → k < t.length → win t s k ≤ bd (t.length - k)
 | 0, k, h, hk => by omega
 | f + 1, k, h, hk => by
  have hok := (sizesOk_iff.1 hs).1
  rw [win_eq hok s hk]
  split
  ·have h1 := ksum_bd hok (s := s) hk fun j h1 h2 => win_bd hs f j (by omega) h2
   have h2 := up_le (ksum t s k)
   omega
  ·have h0 : bd 0 ≤ bd (t.length - k) := Nat.mul_le_mul_left _ (Nat.pow_le_pow_right (by omega) (by omega))
   have h0 : 4096 ≤ bd (t.length - k) := h0
   rcases sizes_node hs hk with h1 | ⟨h1, _⟩
   ·rw [h1]; simp
   ·have := pw_in h1
    omega
/-- no sum of windows runs over -/
theorem ksum_lim {t : List Nd} {s : List Int} (hs : sizesOk t s = true) {k : Nat} (hk : k < t.length) : ksum t s k ≤ 1088391168 := by
 have hok := (sizesOk_iff.1 hs).1
 have h1 := ksum_bd hok (s := s) hk fun j h1 h2 => win_bd hs _ j (Nat.le_refl _) h2
 have h2 := treeOk_len hok
 have h3 : bd (t.length - k) ≤ bd 12 := Nat.mul_le_mul_left _ (Nat.pow_le_pow_right (by omega) (by omega))
 have : bd 12 = 2176782336 := by decide
 omega
theorem win_lim {t : List Nd} {s : List Int} (hs : sizesOk t s = true) {k : Nat} (hk : k < t.length) : win t s k ≤ 2176782336 := by
 have hok := (sizesOk_iff.1 hs).1
 rw [win_eq hok s hk]
 split
 ·have := up_le (ksum t s k)
  have := ksum_lim hs hk
  omega
 ·rcases sizes_node hs hk with h1 | ⟨h1, _⟩
  ·rw [h1]; simp
  ·have := pw_in h1
   omega
/-- a window is a power of two, or nothing -/
theorem win_pow {t : List Nd} {s : List Int} (hs : sizesOk t s = true) {k : Nat} (hk : k < t.length) : win t s k = 0 ∨ ∃ i, win t s k = 2 ^ i := by
 have hok := (sizesOk_iff.1 hs).1
 rw [win_eq hok s hk]
 split
 ·rcases Nat.eq_zero_or_pos (ksum t s k) with h | h
  ·rw [h]; exact .inl rfl
  ·exact .inr (up_pow h)
 ·rcases sizes_node hs hk with h1 | ⟨h1, _⟩
  ·rw [h1]; exact .inl rfl
  ·obtain ⟨i, -, h2⟩ := pw_pow h1
   rw [h2]
   exact .inr ⟨i, Int.toNat_natCast _⟩
/-- a node's number of functions -/
theorem tree_fun {t : List Nd} (h : treeOk t = true) {k : Nat} (hk : k < t.length) : 0 ≤ (t.getD k z).2.2 ∧ (t.getD k z).2.2 ≤ 4 := by
 rcases Nat.eq_zero_or_pos k with rfl | h1
 ·rw [(tree_parts h).2.1]; decide
 ·obtain ⟨i, rfl⟩ : ∃ i, k = i + 1 := ⟨k - 1, by omega⟩
  have hb := (tree_parts h).2.2 i hk
  simp only [bad, bad1, Bool.or_eq_false_iff, Bool.not_eq_false'] at hb
  exact inB_iff.1 hb.1.2.2.2
end Go.Proofs.YtoeblmcibheldaaGreatDoor.V.W
end
section
namespace Go.Proofs.YtoeblmcibheldaaGreatDoor.V.W
open Go Go.RowKit
theorem getD_mem {xs : List Int} {i : Nat} (h : i < xs.length) : xs.getD i 0 ∈ xs := by
 rw [List.getD_eq_getElem?_getD, List.getElem?_eq_getElem h]
 exact List.getElem_mem h
set_option maxRecDepth 20000 in
theorem win_vc {t : List Nd} {s : List Int} (hs : sizesOk t s = true) : ∀ (f k : Nat), t.length - k ≤ f → k < t.length → VC Tryz.prog 160 [.v false sNS t, .v false sI s, .v false (.int .i64) ((k : Nat))] (· = .v false (.int .i64) ((win t s k : Nat)))
 := by
 intro f
 induction f with
 | zero =>
  intro k hf hk
  omega
 | succ f ih =>
  intro k hf hk
  have hok := (sizesOk_iff.1 hs).1
  have hsl := (sizesOk_iff.1 hs).2.1
  have htl := treeOk_len hok
  have hwin := win_eq hok s hk
  have hlim := ksum_lim hs hk
  have hperm := children_perm hok hk
  have hcl : (children t k).length ≤ 12 := by
   rw [hperm.length_eq]
   have := kids_len t k t.length
   omega
  have hsum : wsum (win t s) (children t k) = ksum t s k := wsum_perm hperm
  refine VC.of_body hT Tryz.func160 rfl (by kernel_rfl) [(.tmp 6, false, .int .i64)] (by kernel_rfl) ?_
  show VW _ _ ([.v false sNS t, .v false sI s, .v false (.int .i64) ((k : Nat)), D, D, D, D, D, D, D, D, D, D, D, D, D, D, D, D, D, D, D, D, D, D, D, D, D, D, D, D, D, D, D, D, D, D, D, D, D, D, D]) _
  repeat refine VW.seq ?_
  refine VW.regl hT fun K hK => ?_
  simp only [wq, simprocAttr]
  refine hK _ ?_
  clear hK K
  try refine vthen_n ?_
  repeat refine VW.seq ?_
  refine VW.regl hT fun K hK => ?_
  simp only [wq, simprocAttr]
  refine vcall_of (isBridge_vc t k (by omega) (by omega)) ?_
  simp only [wq, simprocAttr]
  refine hK _ ?_
  clear hK K
  try refine vthen_n ?_
  repeat refine VW.seq ?_
  refine VW.cond rfl (fun hc => ?_) (fun hc => ?_)
  ·repeat refine VW.seq ?_
   refine VW.regl hT fun K hK => ?_
   simp only [wq, simprocAttr]
   refine ⟨decide_eq_true ⟨Int.natCast_nonneg _, by show (k : Int) < (s.length : Int); omega⟩, ?_⟩
   refine hK _ ?_
   clear hK K
   try refine vthen_n ?_
   refine VW.ret ⟨.inl rfl, _, rfl, ?_⟩
   have hc : ((t.getD k z).2.2 == 0) = false := (Bool.not_eq_true' _).mp hc
   have hc : (t.getD k z).2.2 ≠ 0 := by simpa using hc
   have : s.getD k 0 = ((s.getD k 0).toNat : Int) := by
    rcases sizes_node hs hk with h | ⟨h, _⟩
    ·rw [h]; rfl
    ·have := pw_in h
     omega
   rw [hwin, if_neg hc, ← this]
  have hb : (t.getD k z).2.2 = 0 := by
   have hc : ((t.getD k z).2.2 == 0) = true := by
    have := hc
    rwa [Bool.not_eq_false'] at this
   simpa using hc
  rw [if_pos hb] at hwin
  rw [hwin]
  generalize hL : children t k = L at *
  refine VW.skip (vthen_n ?_)
  repeat refine VW.seq ?_
  refine VW.regl hT fun K hK => ?_
  simp only [wq, simprocAttr]
  refine hK _ ?_
  clear hK K
  try refine vthen_n ?_
  repeat refine VW.seq ?_
  refine VW.regl hT fun K hK => ?_
  simp only [wq, simprocAttr]
  refine vcall_of (children_vc t k (by omega)) ?_
  rw [hL]
  simp only [wq, simprocAttr]
  refine hK _ ?_
  clear hK K
  try refine vthen_n ?_
  repeat refine VW.seq ?_
  refine VW.block ?_
  refine VW.loop (α := Nat) [(0, none), (1, none), (7, none), (21, none), (22, none), (23, none)] (fun i => [.v false sNS t, .v false sI s, D, D, D, D, D, .v false (.int .i64) ((wsum (win t s) (L.take i) : Nat)), D, D, D, D, D, D, D, D, D, D, D, D, D, .root (.val false) sI .own L, .v false (.int .i64) ((L.length : Nat)), .v false (.int .i64) ((i : Nat)), D, D, D, D, D, D, D, D, D, D, D, D, D, D, D, D, D, D]) (fun i => i ≤ L.length) (fun i => L.length - i) ⟨0, by omega, ?_⟩ fun i hi => ?_
  ·simp only [wn, wq, simprocAttr]
   try rfl
  repeat refine VW.seq ?_
  refine VW.regl hT fun K hK => ?_
  simp only [wq, simprocAttr]
  refine hK _ ?_
  clear hK K
  try refine vthen_n ?_
  repeat refine VW.seq ?_
  refine VW.cond rfl (fun hc => ?_) (fun hc => ?_)
  ·have hlt : i < L.length := by simpa using hc
   obtain ⟨j, hj, h1, h2, h3, h4⟩ := kids_pos hok (hperm.mem_iff.1 (getD_mem hlt))
   have hle := wsum_le (win t s) L (i + 1)
   have htk := wsum_take (win t s) hlt
   rw [hj, Int.toNat_natCast] at htk
   refine VW.skip (vthen_n ?_)
   repeat refine VW.seq ?_
   refine VW.block ?_
   repeat refine VW.seq ?_
   refine VW.regl hT fun K hK => ?_
   simp only [wq, simprocAttr]
   refine ⟨decide_eq_true ⟨Int.natCast_nonneg _, by show (i : Int) < (L.length : Int); omega⟩, ?_⟩
   refine hK _ ?_
   clear hK K
   try refine vthen_n ?_
   repeat refine VW.seq ?_
   refine VW.regl hT fun K hK => ?_
   simp only [wq, simprocAttr]
   rw [show L.getD i 0 = (j : Int) from hj]
   refine vcall_of (ih j (by omega) h2) ?_
   simp only [wq, simprocAttr]
   refine hK _ ?_
   clear hK K
   try refine vthen_n ?_
   repeat refine VW.seq ?_
   refine VW.regl hT fun K hK => ?_
   simp only [wq, simprocAttr]
   refine hK _ ?_
   clear hK K
   try refine vthen_n ?_
   refine ⟨i + 1, hlt, ?_, by show L.length - (i + 1) < L.length - i; omega⟩
   simp only [wn, wq, simprocAttr]
   rw [wrap64 (by omega) (by omega), wrap64 (by omega) (by omega), htk]
   rfl
  ·have hge : i = L.length := by
    have : L.length ≤ i := by simpa using hc
    omega
   subst hge
   refine VW.exit ?_
   show vthen _ _ _ .normal _
   refine vthen_n ?_
   rw [List.take_length, hsum]
   generalize ksum t s k = S at *
   repeat refine VW.seq ?_
   refine VW.regl hT fun K hK => ?_
   simp only [wq, simprocAttr]
   refine hK _ ?_
   clear hK K
   try refine vthen_n ?_
   repeat refine VW.seq ?_
   refine VW.cond rfl (fun hc => ?_) (fun hc => ?_)
   ·repeat refine VW.seq ?_
    refine VW.regl hT fun K hK => ?_
    simp only [wq, simprocAttr]
    refine hK _ ?_
    clear hK K
    try refine vthen_n ?_
    refine VW.ret ⟨.inl rfl, _, rfl, ?_⟩
    have : S = 0 := by
     have : (S : Int) = 0 := by simpa using hc
     omega
    rw [this]
    rfl
   have hS : 1 ≤ S := by
    have : ¬ (S : Int) = 0 := by simpa using hc
    omega
   refine VW.skip (vthen_n ?_)
   repeat refine VW.seq ?_
   refine VW.regl hT fun K hK => ?_
   simp only [wq, simprocAttr]
   refine hK _ ?_
   clear hK K
   try refine vthen_n ?_
   repeat refine VW.seq ?_
   refine VW.block ?_
   refine VW.loop (α := Nat) [(7, none), (10, none)] (fun i => [D, D, D, D, D, D, D, .v false (.int .i64) ((S : Nat)), D, D, .v false (.int .i64) ((2 ^ i : Nat)), D, D, D, D, D, D, D, D, D, D, D, D, D, D, D, D, D, D, D, D, D, D, D, D, D, D, D, D, D, D, D]) (fun i => i = 0 ∨ 2 ^ (i - 1) < S) (fun i => 2 * S - 2 ^ i) ⟨0, .inl rfl, ?_⟩ fun i hi => ?_
   ·simp only [wn, wq, simprocAttr]
    try rfl
   have h2i : 2 ^ i ≤ 2 * S := by
    rcases hi with rfl | hi
    ·simp; omega
    ·cases i with
     | zero => simp; omega
     | succ i =>
      simp only [Nat.add_sub_cancel] at hi
      rw [Nat.pow_succ]
      omega
   repeat refine VW.seq ?_
   refine VW.regl hT fun K hK => ?_
   simp only [wq, simprocAttr]
   refine hK _ ?_
   clear hK K
   try refine vthen_n ?_
   repeat refine VW.seq ?_
   refine VW.cond rfl (fun hc => ?_) (fun hc => ?_)
   ·have hlt : 2 ^ i < S := by
     have : ((2 ^ i : Nat) : Int) < (S : Int) := of_decide_eq_true hc
     omega
    have hps : 2 ^ (i + 1) = 2 ^ i * 2 := Nat.pow_succ ..
    refine VW.skip (vthen_n ?_)
    repeat refine VW.seq ?_
    refine VW.block ?_
    repeat refine VW.seq ?_
    refine VW.regl hT fun K hK => ?_
    simp only [wq, simprocAttr]
    refine hK _ ?_
    clear hK K
    try refine vthen_n ?_
    refine ⟨i + 1, .inr (by simpa using hlt), ?_, by show 2 * S - 2 ^ (i + 1) < 2 * S - 2 ^ i; have := Nat.two_pow_pos i; omega⟩
    simp only [wn, wq, simprocAttr]
    rw [hps]
    generalize 2 ^ i = P at *
    rw [wrap64 (by omega) (by omega)]
    rfl
   ·have hge : S ≤ 2 ^ i := by
     have : ¬ ((2 ^ i : Nat) : Int) < (S : Int) := of_decide_eq_false hc
     omega
    refine VW.exit ?_
    show vthen _ _ _ .normal _
    refine vthen_n ?_
    repeat refine VW.seq ?_
    refine VW.regl hT fun K hK => ?_
    simp only [wq, simprocAttr]
    refine hK _ ?_
    clear hK K
    try refine vthen_n ?_
    refine VW.ret ⟨.inl rfl, _, rfl, ?_⟩
    rw [up_eq hS hge hi]
end Go.Proofs.YtoeblmcibheldaaGreatDoor.V.W
end
section
namespace Go.Proofs.YtoeblmcibheldaaGreatDoor.V.W
open Go Go.RowKit
/-- how long two rows agree -/
def cpl : List Int → List Int → Nat
 | a :: x, b :: y => if a = b then cpl x y + 1 else 0
 | _, _ => 0
theorem cpl_eq : ∀ (x y : List Int) (n : Nat), n ≤ x.length → n ≤ y.length → (∀ j, j < n → x.getD j 0 = y.getD j 0) → (n = x.length ∨ n = y.length ∨ x.getD n 0 ≠ y.getD n 0) → cpl x y = n
 | [], y, n, h1, h2, h3, h4 => by
  obtain rfl : n = 0 := by simpa using h1
  simp [cpl]
 | a :: x, [], n, h1, h2, h3, h4 => by
  obtain rfl : n = 0 := by simpa using h2
  simp [cpl]
 | a :: x, b :: y, 0, h1, h2, h3, h4 => by
  have : a ≠ b := by
   rcases h4 with h | h | h
   ·simp at h
   ·simp at h
   ·simpa using h
  simp [cpl, this]
 | a :: x, b :: y, n + 1, h1, h2, h3, h4 => by
  have h0 : a = b := by simpa using h3 0 (by omega)
  have ih := cpl_eq x y n (by simpa using h1) (by simpa using h2) (fun j hj => by simpa using h3 (j + 1) (by omega)) (by simpa using h4)
  simp [cpl, h0, ih]
theorem cpl_pos {x y : List Int} (h1 : 0 < x.length) (h2 : 0 < y.length) (h : x.getD 0 0 = y.getD 0 0) : 1 ≤ cpl x y := by
 match x, y, h1, h2 with
 | a :: x, b :: y, _, _ =>
  have : a = b := by simpa using h
  simp [cpl, this]
theorem path_head {t : List Nd} {k : Int} (h : (treeOk t && inB k 0 (t.length - 1)) = true) : 0 < (pathTo t k).length ∧ (pathTo t k).getD 0 0 = 0 ∧ (pathTo t k).length ≤ 12 := by
 have hok : treeOk t = true := by
  rw [Bool.and_eq_true] at h
  exact h.1
 have hk := inB_iff.1 (by rw [Bool.and_eq_true] at h; exact h.2 : inB k 0 (t.length - 1) = true)
 have htl := treeOk_len hok
 have hneg : ∃ i, i ≤ t.length ∧ anc t k i < 0 ∧ ∀ j, j < i → 0 ≤ anc t k j := by
  have hend : anc t k t.length < 0 := by
   have := anc_lt hok (k := k) (by omega) t.length (by omega)
   omega
  have : ∀ n, anc t k n < 0 → ∃ i, i ≤ n ∧ anc t k i < 0 ∧ ∀ j, j < i → 0 ≤ anc t k j := by
   intro n
   induction n using Nat.strongRecOn with
   | _ n ih =>
    intro hn
    by_cases hex : ∃ j, j < n ∧ anc t k j < 0
    ·obtain ⟨j, h1, h2⟩ := hex
     obtain ⟨i, q1, q2, q3⟩ := ih j h1 h2
     exact ⟨i, by omega, q2, q3⟩
    ·refine ⟨n, Nat.le_refl _, hn, fun j hj => ?_⟩
     have : ¬ anc t k j < 0 := fun q => hex ⟨j, hj, q⟩
     omega
  exact this _ hend
 obtain ⟨i, hi, h1, h2⟩ := hneg
 rw [pathTo, if_pos h, accTo_all hok h1 h2 _ hi]
 have hi0 : i ≠ 0 := by
  rintro rfl
  have h1 : k < 0 := h1
  omega
 obtain ⟨m, rfl⟩ : ∃ m, i = m + 1 := ⟨i - 1, by omega⟩
 have hm : anc t k m = 0 := by
  have h3 := h2 m (by omega)
  have h1 : (t.getD (anc t k m).toNat z).1 < 0 := h1
  have h4 := anc_lt hok (k := k) (by omega) m (by omega)
  rcases Nat.eq_zero_or_pos (anc t k m).toNat with e | e
  ·omega
  ·obtain ⟨p, hp, _⟩ := par hok (j := (anc t k m).toNat) (by omega) (by omega)
   omega
 rw [accTo_succ, hm, List.reverse_append]
 refine ⟨by simp, by simp, ?_⟩
 simp [accTo]
 omega
def isNd (t : List Nd) (k : Int) : Bool := treeOk t && inB k 0 (t.length - 1)
/-- the nodes from one node to another -/
def between (t : List Nd) (a b : Int) : List Int := if (isNd t a && isNd t b) = true then ((pathTo t a).drop (cpl (pathTo t a) (pathTo t b) - 1)).reverse ++ (pathTo t b).drop (cpl (pathTo t a) (pathTo t b)) else []
set_option maxRecDepth 20000 in
set_option maxHeartbeats 1000000 in
theorem between_vc (t : List Nd) (a b : Int) (hl : t.length ≤ 2000000) : VC Tryz.prog 82 [.v false sNS t, .v false (.int .i64) (a), .v false (.int .i64) (b)] (· = .root (.val false) sI .own (between t a b)) := by
 refine VC.of_body hT Tryz.func82 rfl (by kernel_rfl) [(.tmp 6, false, sI)] (by kernel_rfl) ?_
 show VW _ _ ([.v false sNS t, .v false (.int .i64) (a), .v false (.int .i64) (b), D, D, D, D, D, D, D, D, D, D, D, D, D, D, D, D, D, D, D, D, D, D, D, D, D, D, D, D, D, D, D, D, D, D, D, D, D, D, D, D, D, D, D, D, D, D, D, D, D, D, D, D, D, D, D, D]) _
 repeat refine VW.seq ?_
 refine VW.regl hT fun K hK => ?_
 simp only [wq, simprocAttr]
 refine hK _ ?_
 clear hK K
 try refine vthen_n ?_
 repeat refine VW.seq ?_
 refine VW.regl hT fun K hK => ?_
 simp only [wq, simprocAttr]
 refine vcall_of (isNode_vc t a hl) ?_
 simp only [wq, simprocAttr]
 refine vbr (fun h => ?_) (fun h => ?_) <;> simp only [wq, simprocAttr]
 case refine_2 =>
  have h : isNd t a = false := (Bool.not_eq_true' _).mp h
  refine hK _ ?_
  clear hK K
  try refine vthen_n ?_
  repeat refine VW.seq ?_
  refine VW.cond rfl (fun hc => ?_) (fun hc => ?_)
  ·repeat refine VW.seq ?_
   refine VW.regl hT fun K hK => ?_
   simp only [wq, simprocAttr]
   refine hK _ ?_
   clear hK K
   try refine vthen_n ?_
   refine VW.ret ⟨.inl rfl, _, rfl, ?_⟩
   rw [between, if_neg (by rw [h, Bool.false_and]; decide)]
   rfl
  ·cases hc
 have ha : isNd t a = true := by
  have := h
  rwa [Bool.not_eq_false'] at this
 refine vcall_of (isNode_vc t b hl) ?_
 simp only [wq, simprocAttr]
 refine hK _ ?_
 clear hK K
 try refine vthen_n ?_
 repeat refine VW.seq ?_
 refine VW.cond rfl (fun hc => ?_) (fun hc => ?_)
 ·have hc : isNd t b = false := (Bool.not_eq_true' _).mp hc
  repeat refine VW.seq ?_
  refine VW.regl hT fun K hK => ?_
  simp only [wq, simprocAttr]
  refine hK _ ?_
  clear hK K
  try refine vthen_n ?_
  refine VW.ret ⟨.inl rfl, _, rfl, ?_⟩
  rw [between, if_neg (by rw [ha, hc]; decide)]
  rfl
 have hb : isNd t b = true := by
  have := hc
  rwa [Bool.not_eq_false'] at this
 have hpa := path_head ha
 have hpb := path_head hb
 have hbt : between t a b = ((pathTo t a).drop (cpl (pathTo t a) (pathTo t b) - 1)).reverse ++ (pathTo t b).drop (cpl (pathTo t a) (pathTo t b)) := by rw [between, if_pos (by rw [ha, hb]; rfl)]
 rw [hbt]
 refine VW.skip (vthen_n ?_)
 repeat refine VW.seq ?_
 refine VW.regl hT fun K hK => ?_
 simp only [wq, simprocAttr]
 refine vcall_of (pathTo_vc t a hl) ?_
 simp only [wq, simprocAttr]
 refine vcall_of (pathTo_vc t b hl) ?_
 simp only [wq, simprocAttr]
 refine hK _ ?_
 clear hK K
 try refine vthen_n ?_
 generalize pathTo t a = x at *
 generalize pathTo t b = y at *
 refine VW.weak (weak_norm [(7, none), (8, none)] _) ?_
 simp only [wn, wq, simprocAttr]
 refine VW.giveup 7 rfl rfl ?_
 refine VW.giveup 8 rfl rfl ?_
 simp only [V.drop, usesG, wq, simprocAttr]
 obtain ⟨px1, px2, px3⟩ := hpa
 obtain ⟨py1, py2, py3⟩ := hpb
 have hcp := cpl_pos px1 py1 (by rw [px2, py2])
 repeat refine VW.seq ?_
 refine VW.regl hT fun K hK => ?_
 simp only [wq, simprocAttr]
 refine hK _ ?_
 clear hK K
 try refine vthen_n ?_
 repeat refine VW.seq ?_
 refine VW.block ?_
 refine VW.loop (α := Nat) [(7, none), (8, none), (9, none)] (fun i => [D, D, D, D, D, D, D, .v false sI x, .v false sI y, .v false (.int .i64) ((i : Nat)), D, D, D, D, D, D, D, D, D, D, D, D, D, D, D, D, D, D, D, D, D, D, D, D, D, D, D, D, D, D, D, D, D, D, D, D, D, D, D, D, D, D, D, D, D, D, D, D, D]) (fun i => i ≤ x.length ∧ i ≤ y.length ∧ ∀ j, j < i → x.getD j 0 = y.getD j 0) (fun i => x.length - i) ⟨0, ⟨by omega, by omega, fun j h => by omega⟩, ?_⟩ fun i ⟨hx, hy, hj⟩ => ?_
 ·simp only [wn, wq, simprocAttr]
  try rfl
 apply cutl
 ·intro tail
  repeat refine VW.seq ?_
  refine VW.drawl hT hm (by kernel_rfl) fun K hK => ?_
  simp only [wq, simprocAttr]
  refine vbr (fun h => ?_) (fun h => ?_) <;> simp only [wq, simprocAttr]
  case refine_2 =>
   have h : decide ((i : Int) < if (y.length : Int) < (x.length : Int) then (y.length : Int) else (x.length : Int)) = false := h
   have h := of_decide_eq_false h
   have hend : i = x.length ∨ i = y.length ∨ x.getD i 0 ≠ y.getD i 0 := by
    split at h
    ·exact .inr (.inl (by omega))
    ·exact .inl (by omega)
   refine hK _ ?_
   try refine vthen_n ?_
   refine VW.cond rfl (fun hc => by cases hc) (fun hc => ?_)
   refine VW.exit ?_
   show vthen _ _ _ .normal _
   refine vthen_n ?_
   refine VW.weak (weak_norm [(7, none), (8, none), (9, none)] _) ?_
   simp only [wn, wq, simprocAttr]
   revert hend
   exact tail.h
  have h : decide ((i : Int) < if (y.length : Int) < (x.length : Int) then (y.length : Int) else (x.length : Int)) = true := h
  have h := of_decide_eq_true h
  have hlx : i < x.length := by split at h <;> omega
  have hly : i < y.length := by split at h <;> omega
  refine ⟨decide_eq_true ⟨Int.natCast_nonneg _, by show (i : Int) < (x.length : Int); omega⟩, decide_eq_true ⟨Int.natCast_nonneg _, by show (i : Int) < (y.length : Int); omega⟩, ?_⟩
  refine hK _ ?_
  try refine vthen_n ?_
  refine VW.cond rfl (fun hc => ?_) (fun hc => ?_)
  ·have hc : (x.getD i 0 == y.getD i 0) = true := hc
   refine VW.skip (vthen_n ?_)
   repeat refine VW.seq ?_
   refine VW.block ?_
   repeat refine VW.seq ?_
   refine VW.regl hT fun K hK => ?_
   simp only [wq, simprocAttr]
   refine hK _ ?_
   clear hK K
   try refine vthen_n ?_
   refine ⟨i + 1, ⟨hlx, hly, fun j hj2 => ?_⟩, ?_, by show x.length - (i + 1) < x.length - i; omega⟩
   ·rcases Nat.lt_or_ge j i with h1 | h1
    ·exact hj j h1
    ·obtain rfl : j = i := by omega
     simpa using hc
   simp only [wn, wq, simprocAttr]
   rw [wrap64 (by omega) (by omega)]
   rfl
  ·have hc : (x.getD i 0 == y.getD i 0) = false := hc
   have hend : i = x.length ∨ i = y.length ∨ x.getD i 0 ≠ y.getD i 0 := .inr (.inr (by simpa using hc))
   refine VW.exit ?_
   show vthen _ _ _ .normal _
   refine vthen_n ?_
   refine VW.weak (weak_norm [(7, none), (8, none), (9, none)] _) ?_
   simp only [wn, wq, simprocAttr]
   revert hend
   exact tail.h
 ·intro hend
  have hi := cpl_eq x y i hx hy hj hend
  rw [hi] at hcp
  rw [hi]
  obtain ⟨m, hm1⟩ : ∃ m, i = m + 1 := ⟨i - 1, by omega⟩
  have hdl : (x.drop m).length = x.length - m := List.length_drop ..
  rw [show i - 1 = m by omega]
  repeat refine VW.seq ?_
  refine VW.regl hT fun K hK => ?_
  simp only [wq, simprocAttr]
  rw [wrap64 (by omega) (by omega), show (i : Int) - 1 = (m : Int) by omega, Int.toNat_natCast, List.take_length]
  refine ⟨decide_eq_true ⟨by omega, by omega, by omega⟩, ?_⟩
  refine vcall_of (cloneI_vc (x.drop m) (by omega)) ?_
  simp only [wq, simprocAttr]
  refine hK _ ?_
  clear hK K
  try refine vthen_n ?_
  repeat refine VW.seq ?_
  refine VW.regl hT fun K hK => ?_
  simp only [wq, simprocAttr]
  refine vcall_io 0 ?_
  simp only [wq, simprocAttr]
  refine vxcall_of (reverse_vx (x.drop m) (by omega) (by omega)) ?_
  simp only [wq, simprocAttr]
  refine hK _ ?_
  clear hK K
  try refine vthen_n ?_
  repeat refine VW.seq ?_
  refine VW.regl hT fun K hK => ?_
  simp only [wq, simprocAttr]
  rw [List.take_length]
  refine ⟨decide_eq_true ⟨by omega, by omega, by omega⟩, ?_, ?_⟩
  ·have e1 : (x.drop m).reverse.length + (y.drop i).length ≤ 24 := by
    rw [List.length_reverse, List.length_drop, List.length_drop]
    omega
   generalize (x.drop m).reverse.length + (y.drop i).length = q at *
   simp [limOk]
   omega
  refine hK _ ?_
  clear hK K
  try refine vthen_n ?_
  refine VW.weak (weak_norm [(6, none)] _) ?_
  simp only [wn, wq, simprocAttr]
  exact VW.ret ⟨.inl rfl, _, rfl, rfl⟩
end Go.Proofs.YtoeblmcibheldaaGreatDoor.V.W
end
section
namespace Go.Proofs.YtoeblmcibheldaaGreatDoor.V.W
open Go Go.RowKit
end Go.Proofs.YtoeblmcibheldaaGreatDoor.V.W
end
section
namespace Go.Proofs.YtoeblmcibheldaaGreatDoor.V.W
open Go Go.RowKit
/-- a lies before b: the greater window first, then the lower number -/
def lt (w : Nat → Nat) (a b : Int) : Prop := w b.toNat < w a.toNat ∨ (w a.toNat = w b.toNat ∧ a < b)
instance (w : Nat → Nat) (a b : Int) : Decidable (lt w a b) := by unfold lt; infer_instance
def byWin (w : Nat → Nat) (a b : Int) : Int := if cmpI (w b.toNat) (w a.toNat) = 0 then cmpI a b else cmpI (w b.toNat) (w a.toNat)
theorem byWin_lt {w : Nat → Nat} {a b : Int} : byWin w a b < 0 ↔ lt w a b := by
 unfold byWin cmpI lt
 constructor
 ·intro h
  repeat' split at h
  all_goals omega
 ·intro h
  repeat' split
  all_goals omega
theorem ins_mem' {c : Int → Int → Int} {x y : Int} {P : List Int} : y ∈ ins c x P ↔ y = x ∨ y ∈ P := by
 rw [(ins_perm c x P).mem_iff, List.mem_cons]
theorem ins_sorted (w : Nat → Nat) (x : Int) : ∀ P : List Int, P.Pairwise (fun a b => ¬ lt w a b) → (ins (byWin w) x P).Pairwise (fun a b => ¬ lt w a b)
 | [], _ => List.pairwise_singleton _ _
 | y :: r, h => by
  have h' := List.pairwise_cons.1 h
  unfold ins
  split
  ·rename_i hc
   have hc := byWin_lt.1 hc
   refine List.pairwise_cons.2 ⟨fun v hv => ?_, ins_sorted w x r h'.2⟩
   rcases ins_mem'.1 hv with rfl | hv
   ·unfold lt at hc ⊢; omega
   ·exact h'.1 v hv
  ·rename_i hc
   have hc : ¬ lt w x y := fun h => hc (byWin_lt.2 h)
   refine List.pairwise_cons.2 ⟨fun v hv => ?_, h⟩
   rcases List.mem_cons.1 hv with rfl | hv
   ·exact hc
   ·have := h'.1 v hv
    unfold lt at hc this ⊢
    omega
theorem pre_sorted (w : Nat → Nat) (xs : List Int) : ∀ ys P : List Int, P.Pairwise (fun a b => ¬ lt w a b) → (ys.foldl (fun P x => ins (byWin w) x P) P).Pairwise (fun a b => ¬ lt w a b)
 | [], P, h => h
 | y :: ys, P, h => pre_sorted w xs ys _ (ins_sorted w y P h)
theorem isort_sorted (w : Nat → Nat) {xs : List Int} (hn : xs.Nodup) : (isort (byWin w) xs).Pairwise (lt w) := by
 have h1 : (pre (byWin w) xs xs.length).Pairwise (fun a b => ¬ lt w a b) := pre_sorted w xs _ [] List.Pairwise.nil
 have h2 : (isort (byWin w) xs).Pairwise (fun a b => ¬ lt w b a) := by
  unfold isort
  exact List.pairwise_reverse.2 h1
 have h3 : (isort (byWin w) xs).Nodup := (isort_perm (byWin w) xs).nodup_iff.2 hn
 refine (h2.and h3).imp fun {a b} h => ?_
 obtain ⟨h4, h5⟩ := h
 unfold lt at h4 ⊢
 omega
theorem take_filter (w : Nat → Nat) : ∀ (l : List Int), l.Pairwise (lt w) → ∀ i, i < l.length → l.filter (fun a => decide (lt w a (l.getD i 0))) = l.take i
 | a :: r, h, 0, _ => by
  have h' := List.pairwise_cons.1 h
  rw [List.take_zero, List.filter_eq_nil_iff]
  intro b hb
  have : ¬ lt w b a := by
   rcases List.mem_cons.1 hb with rfl | hb
   ·unfold lt; omega
   ·have := h'.1 b hb
    unfold lt at this ⊢
    omega
  simpa using this
 | a :: r, h, i + 1, hi => by
  have h' := List.pairwise_cons.1 h
  have hi : i < r.length := by simpa using hi
  have : lt w a (r.getD i 0) := by
   refine h'.1 _ ?_
   rw [List.getD_eq_getElem?_getD, List.getElem?_eq_getElem hi]
   exact List.getElem_mem hi
  rw [List.getD_cons_succ, List.filter_cons_of_pos (by simpa using this), List.take_succ_cons, take_filter w r h'.2 i hi]
theorem wsum_filter (f : Nat → Nat) (p : Int → Bool) : ∀ {xs : List Int} {a : Int}, a ∈ xs → p a = false → wsum f (xs.filter p) + f a.toNat ≤ wsum f xs
 | b :: xs, a, h, hp => by
  have hle : ∀ ys : List Int, wsum f (ys.filter p) ≤ wsum f ys := by
   intro ys
   induction ys with
   | nil => exact Nat.le_refl _
   | cons y ys ih =>
    rw [List.filter_cons]
    split
    ·rw [wsum_cons, wsum_cons]; omega
    ·rw [wsum_cons]; omega
  rcases List.mem_cons.1 h with rfl | h
  ·rw [List.filter_cons, if_neg (by simp [hp]), wsum_cons]
   have := hle xs
   omega
  ·have := wsum_filter f p h hp
   rw [List.filter_cons]
   split
   ·rw [wsum_cons, wsum_cons]; omega
   ·rw [wsum_cons]; omega
/-- what is laid down before j -/
def befs (t : List Nd) (s : List Int) (k : Int) (j : Nat) : Nat := wsum (win t s) ((kids t k t.length).filter fun a => decide (lt (win t s) a j))
/-- where the window of a node begins -/
def posF (t : List Nd) (s : List Int) : Nat → Nat → Nat
 | 0, _ => 0
 | f + 1, j => if j = 0 ∨ win t s j = 0 then 0 else posF t s f (t.getD j z).1.toNat + befs t s (t.getD j z).1 j
def pos (t : List Nd) (s : List Int) (j : Nat) : Nat := posF t s j j
theorem posF_same {t : List Nd} (hok : treeOk t = true) (s : List Int) : ∀ (f g j : Nat), j < t.length → j ≤ f → j ≤ g → posF t s f j = posF t s g j
 | 0, 0, j, hj, h1, h2 => rfl
 | 0, g + 1, j, hj, h1, h2 => by
  obtain rfl : j = 0 := by omega
  rw [posF, posF, if_pos (.inl rfl)]
 | f + 1, 0, j, hj, h1, h2 => by
  obtain rfl : j = 0 := by omega
  rw [posF, posF, if_pos (.inl rfl)]
 | f + 1, g + 1, j, hj, h1, h2 => by
  rw [posF, posF]
  split
  ·rfl
  ·rename_i hn
   have := tree_node hok (j := j) (by omega) hj
   rw [posF_same hok s f g _ (by omega) (by omega) (by omega)]
theorem pos_root (t : List Nd) (s : List Int) : pos t s 0 = 0 := rfl
theorem pos_zero {t : List Nd} {s : List Int} {j : Nat} (h : win t s j = 0) : pos t s j = 0 := by
 unfold pos
 cases j with
 | zero => rfl
 | succ j => rw [posF, if_pos (.inr h)]
theorem pos_eq {t : List Nd} (hok : treeOk t = true) {s : List Int} {j k : Nat} (h1 : 1 ≤ j) (h2 : j < t.length) (hw : win t s j ≠ 0) (hp : (t.getD j z).1 = (k : Int)) : pos t s j = pos t s k + befs t s k j := by
 have hn := tree_node hok h1 h2
 unfold pos
 obtain ⟨f, rfl⟩ : ∃ f, j = f + 1 := ⟨j - 1, by omega⟩
 rw [posF, if_neg (by omega), hp]
 congr 1
 exact posF_same hok s f k _ (by show k < _; omega) (by show k ≤ _; omega) (Nat.le_refl k)
theorem befs_le {t : List Nd} {s : List Int} {j k : Nat} (h2 : j < t.length) (hp : (t.getD j z).1 = (k : Int)) : befs t s k j + win t s j ≤ ksum t s k := by
 unfold befs ksum
 have hm : (j : Int) ∈ kids t k t.length := kids_iff.2 ⟨by omega, by omega, hp⟩
 have h := wsum_filter (win t s) (fun a => decide (lt (win t s) a j)) hm (by
  have : ¬ lt (win t s) (j : Int) j := by unfold lt; omega
  simpa using this)
 exact h
theorem bridge_win {t : List Nd} (hok : treeOk t = true) (s : List Int) {k j : Nat} (h1 : 1 ≤ j) (h2 : j < t.length) (hp : (t.getD j z).1 = (k : Int)) : win t s k = up (ksum t s k) := by
 have hn := tree_node hok h1 h2
 rw [hp] at hn
 rw [Int.toNat_natCast] at hn
 rw [win_eq hok s (by omega), if_pos hn.2.2.1]
theorem ksum_le {t : List Nd} (hok : treeOk t = true) (s : List Int) {k j : Nat} (h1 : 1 ≤ j) (h2 : j < t.length) (hp : (t.getD j z).1 = (k : Int)) : ksum t s k ≤ win t s k := by
 rw [bridge_win hok s h1 h2 hp]
 exact (up_le _).1
theorem pos_bd {t : List Nd} (hok : treeOk t = true) (s : List Int) : ∀ (f j : Nat), j ≤ f → j < t.length → pos t s j + win t s j ≤ win t s 0
 | f, j, hf, hj => by
  rcases Nat.eq_zero_or_pos j with rfl | h1
  ·rw [pos_root]; omega
  rcases Nat.eq_zero_or_pos (win t s j) with h0 | h0
  ·rw [pos_zero h0]; omega
  obtain ⟨k, hp, hk⟩ := par hok h1 hj
  cases f with
  | zero => omega
  | succ f =>
   have := pos_bd hok s f k (by omega) (by omega)
   have := befs_le (s := s) hj hp
   have := ksum_le hok s h1 hj hp
   rw [pos_eq hok h1 hj (by omega) hp]
   omega
theorem par_win {t : List Nd} (hok : treeOk t = true) (s : List Int) {k j : Nat} (h1 : 1 ≤ j) (h2 : j < t.length) (hp : (t.getD j z).1 = (k : Int)) : win t s j ≤ win t s k := by
 have := befs_le (s := s) h2 hp
 have := ksum_le hok s h1 h2 hp
 omega
/-- j lies below k -/
inductive Bel (t : List Nd) (k : Nat) : Nat → Prop
 | kid {j : Nat} : 1 ≤ j → j < t.length → (t.getD j z).1 = (k : Int) → Bel t k j
 | low {i j : Nat} : Bel t k i → 1 ≤ j → j < t.length → (t.getD j z).1 = (i : Int) → Bel t k j
theorem bel_cases {t : List Nd} {k j : Nat} (h : Bel t k j) : ∃ c : Nat, 1 ≤ c ∧ c < t.length ∧ (t.getD c z).1 = (k : Int) ∧ (j = c ∨ Bel t c j) := by
 induction h with
 | kid h1 h2 h3 => exact ⟨_, h1, h2, h3, .inl rfl⟩
 | low h h1 h2 h3 ih =>
  obtain ⟨c, q1, q2, q3, q4⟩ := ih
  refine ⟨c, q1, q2, q3, .inr ?_⟩
  rcases q4 with rfl | q4
  ·exact .kid h1 h2 h3
  ·exact .low q4 h1 h2 h3
theorem bel_root {t : List Nd} (hok : treeOk t = true) : ∀ (f j : Nat), j ≤ f → 1 ≤ j → j < t.length → Bel t 0 j
 | f, j, hf, h1, h2 => by
  obtain ⟨p, hp, hl⟩ := par hok h1 h2
  cases p with
  | zero => exact .kid h1 h2 hp
  | succ p =>
   cases f with
   | zero => omega
   | succ f => exact .low (bel_root hok f (p + 1) (by omega) (by omega) (by omega)) h1 h2 hp
theorem bel_win {t : List Nd} (hok : treeOk t = true) (s : List Int) {k j : Nat} (h : Bel t k j) : win t s j ≤ win t s k := by
 induction h with
 | kid h1 h2 h3 => exact par_win hok s h1 h2 h3
 | low h h1 h2 h3 ih => exact Nat.le_trans (par_win hok s h1 h2 h3) ih
theorem bel_bridge {t : List Nd} (hok : treeOk t = true) {k j : Nat} (h : Bel t k j) : (t.getD k z).2.2 = 0 := by
 induction h with
 | kid h1 h2 h3 =>
  have hn := tree_node hok h1 h2
  rw [h3] at hn
  exact hn.2.2.1
 | low h h1 h2 h3 ih => exact ih
/-- the windows, those of D laid down -/
def bars (t : List Nd) (s : List Int) (D : Nat → Bool) : List (Int × Int) := (List.range t.length).map fun i => ((win t s i : Int), if D i = true then (pos t s i : Int) else 0)
theorem bars_len (t : List Nd) (s : List Int) (D : Nat → Bool) : (bars t s D).length = t.length := by simp [bars]
theorem bars_get (t : List Nd) (s : List Int) (D : Nat → Bool) {i : Nat} (h : i < t.length) (d : Int × Int) : (bars t s D).getD i d = ((win t s i : Int), if D i = true then (pos t s i : Int) else 0) := by
 rw [List.getD_eq_getElem?_getD, List.getElem?_eq_getElem (by rw [bars_len]; exact h)]
 simp [bars]
theorem bars_set (t : List Nd) (s : List Int) (D : Nat → Bool) {j : Nat} (h : j < t.length) : (bars t s D).set j ((win t s j : Int), (pos t s j : Int)) = bars t s (fun i => D i || i == j) := by
 refine List.ext_getElem (by simp [bars]) fun i h1 h2 => ?_
 rw [List.getElem_set]
 simp only [bars, List.getElem_map, List.getElem_range]
 split
 ·rename_i e
  subst e
  simp
 ·rename_i e
  have : (i == j) = false := by simpa using fun h => e h.symm
  simp only [this, Bool.or_false]
theorem bars_same (t : List Nd) (s : List Int) {D E : Nat → Bool} (h : ∀ i, i < t.length → win t s i ≠ 0 → i ≠ 0 → D i = E i) : bars t s D = bars t s E := by
 refine List.ext_getElem (by simp [bars]) fun i h1 h2 => ?_
 have hi : i < t.length := by simpa [bars] using h1
 simp only [bars, List.getElem_map, List.getElem_range]
 rcases Nat.eq_zero_or_pos i with rfl | h0
 ·simp [pos_root]
 rcases Nat.eq_zero_or_pos (win t s i) with h1 | h1
 ·simp [pos_zero h1]
 ·rw [h i hi (by omega) (by omega)]
/-- all laid down -/
def allBars (t : List Nd) (s : List Int) : List (Int × Int) := bars t s fun _ => true
theorem bars_all {t : List Nd} (hok : treeOk t = true) {s : List Int} {D : Nat → Bool} (h : ∀ j, Bel t 0 j → win t s j ≠ 0 → D j = true) : bars t s D = allBars t s :=
 bars_same t s fun i h1 h2 h3 => h i (bel_root hok i i (Nat.le_refl _) (by omega) h1) h2
/-- the sorted row's sums are the places -/
theorem sort_pos {t : List Nd} (hok : treeOk t = true) {s : List Int} {k : Nat} {xs : List Int} (hp : xs.Perm (kids t k t.length)) {i : Nat} (hi : i < xs.length) : wsum (win t s) ((isort (byWin (win t s)) xs).take i) = befs t s k ((isort (byWin (win t s)) xs).getD i 0).toNat := by
 have hn : xs.Nodup := hp.nodup_iff.2 (kids_nodup _ _ _)
 have hq : (isort (byWin (win t s)) xs).Perm (kids t k t.length) := (isort_perm _ _).trans hp
 have hl : i < (isort (byWin (win t s)) xs).length := by rw [(isort_perm _ _).length_eq]; exact hi
 have hm : (isort (byWin (win t s)) xs).getD i 0 ∈ kids t k t.length := by
  rw [← hq.mem_iff, List.getD_eq_getElem?_getD, List.getElem?_eq_getElem hl]
  exact List.getElem_mem hl
 have h0 := (kids_iff.1 hm).1
 rw [← take_filter (win t s) _ (isort_sorted (win t s) hn) i hl]
 unfold befs
 rw [Int.toNat_of_nonneg h0]
 exact wsum_perm (hq.filter _)
end Go.Proofs.YtoeblmcibheldaaGreatDoor.V.W
end
section
namespace Go.Proofs.YtoeblmcibheldaaGreatDoor.V.W
open Go Go.RowKit
/-- what is laid down before the number i comes up in the round of a size -/
def atS (t : List Nd) (s : List Int) (k : Nat) (size i : Nat) : Nat := wsum (win t s) ((kids t k t.length).filter fun a => decide (size < win t s a.toNat ∨ (win t s a.toNat = size ∧ a < (i : Int))))
theorem wsum_one (f : Nat → Nat) (p q : Int → Bool) (b : Int) (hq : ∀ a, q a = (p a || a == b)) : ∀ {xs : List Int}, xs.Nodup → b ∈ xs → p b = false → wsum f (xs.filter q) = wsum f (xs.filter p) + f b.toNat
 | a :: xs, hn, h, hp => by
  have hn' := List.nodup_cons.1 hn
  by_cases e : a = b
  ·subst e
   have h1 : xs.filter q = xs.filter p := List.filter_congr fun c hc => by
    have : (c == a) = false := by
     rw [beq_eq_false_iff_ne]
     rintro rfl
     exact hn'.1 hc
    rw [hq, this, Bool.or_false]
   rw [List.filter_cons_of_pos (by rw [hq]; simp), List.filter_cons_of_neg (by simp [hp]), wsum_cons, h1]
   omega
  ·have h2 : b ∈ xs := by
    rcases List.mem_cons.1 h with h | h
    ·exact absurd h.symm e
    ·exact h
   have ih := wsum_one f p q b hq hn'.2 h2 hp
   have hqa : q a = p a := by rw [hq, (beq_eq_false_iff_ne.2 e), Bool.or_false]
   rw [List.filter_cons, List.filter_cons, hqa]
   split
   ·rw [wsum_cons, wsum_cons, ih]; omega
   ·exact ih
theorem atS_hit {t : List Nd} {s : List Int} {k size i : Nat} (hi : i < t.length) (hp : (t.getD i z).1 = (k : Int)) (hw : win t s i = size) : atS t s k size (i + 1) = atS t s k size i + size := by
 unfold atS
 have := wsum_one (win t s) (fun a => decide (size < win t s a.toNat ∨ (win t s a.toNat = size ∧ a < (i : Int)))) (fun a => decide (0 ≤ a ∧ (size < win t s a.toNat ∨ (win t s a.toNat = size ∧ a < (i : Int)))) || a == (i : Int)) (i : Int)
 have h1 := wsum_one (win t s) (fun a => decide (0 ≤ a ∧ (size < win t s a.toNat ∨ (win t s a.toNat = size ∧ a < (i : Int))))) (fun a => decide (0 ≤ a ∧ (size < win t s a.toNat ∨ (win t s a.toNat = size ∧ a < (i : Int)))) || a == (i : Int)) (i : Int) (fun a => rfl) (kids_nodup t k t.length) (kids_iff.2 ⟨by omega, by omega, hp⟩) (by simp [hw])
 rw [Int.toNat_natCast, hw] at h1
 rw [show ((kids t k t.length).filter fun a => decide (size < win t s a.toNat ∨ (win t s a.toNat = size ∧ a < ((i + 1 : Nat) : Int)))) = (kids t k t.length).filter (fun a => decide (0 ≤ a ∧ (size < win t s a.toNat ∨ (win t s a.toNat = size ∧ a < (i : Int)))) || a == (i : Int)) from List.filter_congr fun a ha => ?_, h1, show ((kids t k t.length).filter fun a => decide (size < win t s a.toNat ∨ (win t s a.toNat = size ∧ a < (i : Int)))) = (kids t k t.length).filter (fun a => decide (0 ≤ a ∧ (size < win t s a.toNat ∨ (win t s a.toNat = size ∧ a < (i : Int))))) from List.filter_congr fun a ha => ?_]
 ·have h0 := (kids_iff.1 ha).1
  rw [decide_eq_decide]
  exact ⟨fun h => ⟨h0, h⟩, fun h => h.2⟩
 ·have h0 := (kids_iff.1 ha).1
  rw [Bool.eq_iff_iff, Bool.or_eq_true, decide_eq_true_eq, decide_eq_true_eq, beq_iff_eq]
  by_cases e : a = (i : Int)
  ·subst e
   simp [hw]
   omega
  ·omega
theorem atS_miss {t : List Nd} {s : List Int} {k size i : Nat} (h : (t.getD i z).1 ≠ (k : Int) ∨ win t s i ≠ size) : atS t s k size (i + 1) = atS t s k size i := by
 unfold atS
 congr 1
 refine List.filter_congr fun a ha => ?_
 have h0 := kids_iff.1 ha
 rw [decide_eq_decide]
 by_cases e : a = (i : Int)
 ·subst e
  rw [Int.toNat_natCast] at h0 ⊢
  have h0 := h0.2.2
  rcases h with h | h
  ·exact absurd h0 h
  ·constructor <;> intro h2 <;> omega
 ·omega
theorem pow_lt_half {a e : Nat} (h : a = 0 ∨ ∃ i, a = 2 ^ i) : 2 ^ e < a ↔ 2 ^ (e + 1) < a ∨ a = 2 ^ (e + 1) := by
 rcases h with rfl | ⟨i, rfl⟩
 ·have h1 := Nat.two_pow_pos e
  have h2 := Nat.two_pow_pos (e + 1)
  omega
 ·constructor
  ·intro h
   have := (Nat.pow_lt_pow_iff_right (by omega)).1 h
   have : 2 ^ (e + 1) ≤ 2 ^ i := Nat.pow_le_pow_right (by omega) (by omega)
   omega
  ·intro h
   have := Nat.two_pow_pos e
   rw [Nat.pow_succ] at h
   omega
theorem atS_next {t : List Nd} {s : List Int} (hs : sizesOk t s = true) {k : Nat} (e : Nat) : atS t s k (2 ^ (e + 1)) t.length = atS t s k (2 ^ e) 1 := by
 unfold atS
 congr 1
 refine List.filter_congr fun a ha => ?_
 obtain ⟨j, rfl, h1, h2, h3, h4⟩ := kids_pos (sizesOk_iff.1 hs).1 ha
 have := pow_lt_half (e := e) (win_pow hs h2)
 rw [decide_eq_decide, Int.toNat_natCast]
 omega
theorem atS_first {t : List Nd} {s : List Int} (hok : treeOk t = true) {k m : Nat} (h : ∀ j, j < t.length → win t s j ≤ m) : atS t s k m 1 = 0 := by
 unfold atS
 rw [show ((kids t k t.length).filter fun a => decide (m < win t s a.toNat ∨ (win t s a.toNat = m ∧ a < ((1 : Nat) : Int)))) = [] from ?_]
 ·rfl
 rw [List.filter_eq_nil_iff]
 intro a ha
 obtain ⟨j, rfl, h1, h2, h3, h4⟩ := kids_pos hok ha
 have := h j h2
 rw [decide_eq_true_eq, Int.toNat_natCast]
 omega
theorem atS_befs {t : List Nd} {s : List Int} {k j : Nat} : atS t s k (win t s j) j = befs t s k j := rfl
theorem atS_le (t : List Nd) (s : List Int) (k size i : Nat) : atS t s k size i ≤ ksum t s k := by
 unfold atS ksum
 have hle : ∀ (p : Int → Bool) (ys : List Int), wsum (win t s) (ys.filter p) ≤ wsum (win t s) ys := by
  intro p ys
  induction ys with
  | nil => exact Nat.le_refl _
  | cons y ys ih =>
   rw [List.filter_cons]
   split
   ·rw [wsum_cons, wsum_cons]; omega
   ·rw [wsum_cons]; omega
 exact hle _ _
/-- what is laid down when the number i comes up in the round of a size -/
def dS (t : List Nd) (s : List Int) (k : Nat) (D : Nat → Bool) (size i : Nat) (j : Nat) : Bool := D j || ((t.getD j z).1 == (k : Int) && (decide (size < win t s j) || (win t s j == size && decide (j < i))))
theorem dS_hit {t : List Nd} {s : List Int} {k : Nat} {D : Nat → Bool} {size i : Nat} (hp : (t.getD i z).1 = (k : Int)) (hw : win t s i = size) : (fun j => dS t s k D size i j || j == i) = dS t s k D size (i + 1) := by
 funext j
 unfold dS
 by_cases e : j = i
 ·subst e
  rw [hp, hw]
  simp
 ·have h1 : (j == i) = false := by simpa using e
  have h2 : decide (j < i + 1) = decide (j < i) := by rw [decide_eq_decide]; omega
  rw [h1, h2, Bool.or_false]
theorem dS_miss {t : List Nd} {s : List Int} {k : Nat} {D : Nat → Bool} {size i : Nat} (h : (t.getD i z).1 ≠ (k : Int) ∨ win t s i ≠ size) : dS t s k D size i = dS t s k D size (i + 1) := by
 funext j
 unfold dS
 by_cases e : j = i
 ·subst e
  rcases h with h | h
  ·rw [beq_eq_false_iff_ne.2 h]; rfl
  ·rw [beq_eq_false_iff_ne.2 h]; rfl
 ·have h2 : decide (j < i + 1) = decide (j < i) := by rw [decide_eq_decide]; omega
  rw [h2]
end Go.Proofs.YtoeblmcibheldaaGreatDoor.V.W
end
section
namespace Go.Proofs.YtoeblmcibheldaaGreatDoor.V.W
open Go Go.RowKit
/-- the bridges from j down, if j is one -/
def visF (t : List Nd) : Nat → Nat → Nat
 | 0, _ => 0
 | f + 1, j => if (t.getD j z).2.2 = 0 then 1 + wsum (visF t f) (kids t j t.length) else 0
theorem visF_same {t : List Nd} (hok : treeOk t = true) : ∀ (f g k : Nat), k < t.length → t.length - k ≤ f → t.length - k ≤ g → visF t f k = visF t g k
 | 0, g, k, hk, h1, h2 => by omega
 | f + 1, 0, k, hk, h1, h2 => by omega
 | f + 1, g + 1, k, hk, h1, h2 => by
  rw [visF, visF]
  split
  ·congr 1
   refine wsum_ext fun a ha => ?_
   obtain ⟨j, rfl, h3, h4, h5, h6⟩ := kids_pos hok ha
   exact visF_same hok f g j h4 (by omega) (by omega)
  ·rfl
def vis (t : List Nd) (k : Nat) : Nat := visF t t.length k
/-- the bridges below k -/
def subs (t : List Nd) (k : Nat) : Nat := wsum (vis t) (kids t k t.length)
theorem vis_eq {t : List Nd} (hok : treeOk t = true) {k : Nat} (hk : k < t.length) : vis t k = if (t.getD k z).2.2 = 0 then 1 + subs t k else 0 := by
 unfold vis subs
 obtain ⟨n, hn⟩ : ∃ n, t.length = n + 1 := ⟨t.length - 1, by omega⟩
 rw [visF_same hok t.length (n + 1) k hk (by omega) (by omega), visF]
 split
 ·congr 1
  refine wsum_ext fun a ha => ?_
  obtain ⟨j, rfl, h3, h4, h5, h6⟩ := kids_pos hok ha
  exact visF_same hok n t.length j h4 (by omega) (by omega)
 ·rfl
def rsum (n : Nat) (f : Nat → Nat) : Nat := ((List.range n).map f).sum
theorem rsum_succ (n : Nat) (f : Nat → Nat) : rsum (n + 1) f = rsum n f + f n := by
 unfold rsum
 rw [List.range_succ, List.map_append, List.sum_append_nat]
 simp
theorem rsum_le {f g : Nat → Nat} : ∀ {n : Nat}, (∀ j, j < n → f j ≤ g j) → rsum n f ≤ rsum n g
 | 0, _ => Nat.le_refl _
 | n + 1, h => by
  rw [rsum_succ, rsum_succ]
  exact Nat.add_le_add (rsum_le fun j hj => h j (by omega)) (h n (by omega))
theorem rsum_add (f g : Nat → Nat) : ∀ n : Nat, rsum n (fun j => f j + g j) = rsum n f + rsum n g
 | 0 => rfl
 | n + 1 => by
  rw [rsum_succ, rsum_succ, rsum_succ, rsum_add f g n]
  omega
theorem rsum_one (m c : Nat) : ∀ n : Nat, rsum n (fun j => if j = m then c else 0) ≤ c
 | n => by
  have : rsum n (fun j => if j = m then c else 0) ≤ c ∧ (n ≤ m → rsum n (fun j => if j = m then c else 0) = 0) := by
   induction n with
   | zero => exact ⟨Nat.zero_le _, fun _ => rfl⟩
   | succ n ih =>
    rw [rsum_succ]
    split
    ·rename_i e
     have := ih.2 (by omega)
     exact ⟨by omega, fun h => by omega⟩
    ·exact ⟨by omega, fun h => by have := ih.2 (by omega); omega⟩
  exact this.1
theorem kids_rsum (g : Nat → Nat) (t : List Nd) (k : Int) : ∀ n, wsum g (kids t k n) = rsum n fun j => if (t.getD j z).1 = k then g j else 0
 | 0 => rfl
 | n + 1 => by
  rw [kids_succ, wsum_app, rsum_succ, kids_rsum g t k n]
  congr 1
  by_cases h : (t.getD n z).1 = k
  ·rw [if_pos (by simpa using h), if_pos h]; simp [wsum]
  ·rw [if_neg (by simpa using h), if_neg h]; rfl
def front (t : List Nd) (m : Nat) : Nat := rsum t.length fun j => if m ≤ j ∧ (t.getD j z).1 < (m : Int) then vis t j else 0
theorem front_step {t : List Nd} (hok : treeOk t = true) {m : Nat} (h1 : 1 ≤ m) (h2 : m < t.length) : front t m ≤ 1 + front t (m + 1) := by
 have hA : front t m ≤ rsum t.length (fun j => (if j = m then vis t m else 0) + (if m + 1 ≤ j ∧ (t.getD j z).1 < (m : Int) then vis t j else 0)) := by
  refine rsum_le fun j hj => ?_
  by_cases e : j = m
  ·subst e
   rw [if_pos (rfl : j = j)]
   split <;> omega
  ·rw [if_neg e]
   split
   ·rw [if_pos (by omega)]; omega
   ·omega
 have hB : subs t m + rsum t.length (fun j => if m + 1 ≤ j ∧ (t.getD j z).1 < (m : Int) then vis t j else 0) ≤ front t (m + 1) := by
  unfold subs front
  rw [kids_rsum, ← rsum_add]
  refine rsum_le fun j hj => ?_
  by_cases e : (t.getD j z).1 = (m : Int)
  ·have hj1 : j ≠ 0 := by
    rintro rfl
    rw [(tree_parts hok).2.1] at e
    have e : (-1 : Int) = m := e
    omega
   have := tree_node hok (j := j) (by omega) hj
   rw [if_pos e, if_neg (by omega), if_pos (by omega)]
   omega
  ·rw [if_neg e]
   split
   ·rw [if_pos (by omega)]; omega
   ·omega
 have hC := vis_eq hok h2
 have hD := rsum_one m (vis t m) t.length
 rw [rsum_add] at hA
 have hE : vis t m ≤ 1 + subs t m := by
  rw [hC]; split <;> omega
 omega
theorem front_bd {t : List Nd} (hok : treeOk t = true) : ∀ (f m : Nat), 1 ≤ m → m + f = t.length → front t m ≤ f
 | 0, m, h1, h2 => by
  have : front t m ≤ rsum t.length fun j => 0 := rsum_le fun j hj => by rw [if_neg (by omega)]; omega
  have h0 : ∀ n, rsum n (fun _ => 0) = 0 := by
   intro n
   induction n with
   | zero => rfl
   | succ n ih => rw [rsum_succ, ih]
  rw [h0] at this
  exact this
 | f + 1, m, h1, h2 => by
  have := front_step hok h1 (by omega)
  have := front_bd hok f (m + 1) (by omega) (by omega)
  omega
theorem subs_root {t : List Nd} (hok : treeOk t = true) : subs t 0 ≤ 11 := by
 have hl := treeOk_len hok
 have h1 := front_bd hok (t.length - 1) 1 (by omega) (by omega)
 have h2 : subs t 0 ≤ front t 1 := by
  unfold subs front
  rw [kids_rsum]
  refine rsum_le fun j hj => ?_
  by_cases e : (t.getD j z).1 = ((0 : Nat) : Int)
  ·have hj1 : j ≠ 0 := by
    rintro rfl
    rw [(tree_parts hok).2.1] at e
    have e : (-1 : Int) = ((0 : Nat) : Int) := e
    omega
   rw [if_pos e, if_pos (by omega)]
   omega
  ·rw [if_neg e]
   omega
 omega
end Go.Proofs.YtoeblmcibheldaaGreatDoor.V.W
end
section
namespace Go.Proofs.YtoeblmcibheldaaGreatDoor.V.W
open Go Go.RowKit
abbrev sBr : Sh := .pr (.int .i64) (.int .i64)
abbrev sBS : Sh := .sl 110 sBr
abbrev zb : Int × Int := (0, 0)
set_option maxRecDepth 20000 in
theorem or_vc (x y : Int) : VC Tryz.prog 186 [.v false sI [x, y]] (· = .v false (.int .i64) (if x = 0 then y else x)) := by
 refine VC.of_body hT Tryz.func186 rfl (by kernel_rfl) [(.tmp 2, false, .int .i64)] (by kernel_rfl) ?_
 show VW _ _ ([.v false sI [x, y], D, D, D, D, D, D, D, D, D, D, D, D, D, D, D, D, D]) _
 repeat refine VW.seq ?_
 refine VW.regl hT fun K hK => ?_
 simp only [wq, simprocAttr]
 refine hK _ ?_
 clear hK K
 try refine vthen_n ?_
 repeat refine VW.seq ?_
 refine VW.regl hT fun K hK => ?_
 simp only [wq, simprocAttr]
 refine hK _ ?_
 clear hK K
 try refine vthen_n ?_
 repeat refine VW.seq ?_
 refine VW.regl hT fun K hK => ?_
 simp only [wq, simprocAttr]
 refine hK _ ?_
 clear hK K
 try refine vthen_n ?_
 repeat refine VW.seq ?_
 refine VW.block ?_
 refine VW.loop (α := Nat) [(3, none), (6, none), (7, none), (8, none)] (fun i => [D, D, D, .v false (.int .i64) (0), D, D, .v false sI [x, y], .v false (.int .i64) (2), .v false (.int .i64) ((i : Nat)), D, D, D, D, D, D, D, D, D]) (fun i => i ≤ 2 ∧ (1 ≤ i → x = 0) ∧ (2 ≤ i → y = 0)) (fun i => 2 - i) ⟨0, ⟨by omega, by omega, by omega⟩, ?_⟩ fun i ⟨hi, h1, h2⟩ => ?_
 ·simp only [wn, wq, simprocAttr]
  try rfl
 repeat refine VW.seq ?_
 refine VW.regl hT fun K hK => ?_
 simp only [wq, simprocAttr]
 refine hK _ ?_
 clear hK K
 try refine vthen_n ?_
 repeat refine VW.seq ?_
 refine VW.cond rfl (fun hc => ?_) (fun hc => ?_)
 ·have hlt : i < 2 := by
   have : (i : Int) < 2 := of_decide_eq_true hc
   omega
  refine VW.skip (vthen_n ?_)
  repeat refine VW.seq ?_
  refine VW.block ?_
  repeat refine VW.seq ?_
  refine VW.regl hT fun K hK => ?_
  simp only [wq, simprocAttr]
  refine ⟨decide_eq_true ⟨Int.natCast_nonneg _, by show (i : Int) < 2; omega⟩, ?_⟩
  refine hK _ ?_
  clear hK K
  try refine vthen_n ?_
  repeat refine VW.seq ?_
  refine VW.regl hT fun K hK => ?_
  simp only [wq, simprocAttr]
  refine hK _ ?_
  clear hK K
  try refine vthen_n ?_
  rcases (show i = 0 ∨ i = 1 by omega) with rfl | rfl
  ·repeat refine VW.seq ?_
   refine VW.cond rfl (fun hc => ?_) (fun hc => ?_)
   ·repeat refine VW.seq ?_
    refine VW.regl hT fun K hK => ?_
    simp only [wq, simprocAttr]
    refine hK _ ?_
    clear hK K
    try refine vthen_n ?_
    refine VW.ret ⟨.inl rfl, _, rfl, ?_⟩
    have hc : x ≠ 0 := by simpa using hc
    rw [if_neg hc]
    rfl
   ·refine VW.skip ?_
    show vthen _ _ _ .normal _
    refine vthen_n ?_
    repeat refine VW.seq ?_
    refine VW.regl hT fun K hK => ?_
    simp only [wq, simprocAttr]
    refine hK _ ?_
    clear hK K
    try refine vthen_n ?_
    have hc : x = 0 := by simpa using hc
    refine ⟨1, ⟨by omega, fun _ => hc, fun h => by omega⟩, ?_, by decide⟩
    simp only [wn, wq, simprocAttr]
    try rfl
  ·have hx := h1 (by omega)
   repeat refine VW.seq ?_
   refine VW.cond rfl (fun hc => ?_) (fun hc => ?_)
   ·repeat refine VW.seq ?_
    refine VW.regl hT fun K hK => ?_
    simp only [wq, simprocAttr]
    refine hK _ ?_
    clear hK K
    try refine vthen_n ?_
    refine VW.ret ⟨.inl rfl, _, rfl, ?_⟩
    rw [if_pos hx]
    rfl
   ·refine VW.skip ?_
    show vthen _ _ _ .normal _
    refine vthen_n ?_
    repeat refine VW.seq ?_
    refine VW.regl hT fun K hK => ?_
    simp only [wq, simprocAttr]
    refine hK _ ?_
    clear hK K
    try refine vthen_n ?_
    have hc : y = 0 := by simpa using hc
    refine ⟨2, ⟨by omega, fun _ => hx, fun _ => hc⟩, ?_, by decide⟩
    simp only [wn, wq, simprocAttr]
    try rfl
 ·have hge : i = 2 := by
   have : ¬ (i : Int) < 2 := of_decide_eq_false hc
   omega
  refine VW.exit ?_
  show vthen _ _ _ .normal _
  refine vthen_n ?_
  repeat refine VW.seq ?_
  refine VW.regl hT fun K hK => ?_
  simp only [wq, simprocAttr]
  refine hK _ ?_
  clear hK K
  try refine vthen_n ?_
  refine VW.ret ⟨.inl rfl, _, rfl, ?_⟩
  rw [if_pos (h1 (by omega)), h2 (by omega)]
theorem alloc1_vc (bs : List (Int × Int)) (a b : Int) (h1 : 0 ≤ a ∧ a < bs.length) (h2 : 0 ≤ b ∧ b < bs.length) : VC Tryz.prog 185 [.v false (.int .i64) (a), .v false (.int .i64) (b), .fadr sBS bs] (· = .v false (.int .i64) (if cmpI (bs.getD b.toNat zb).1 (bs.getD a.toNat zb).1 = 0 then cmpI a b else cmpI (bs.getD b.toNat zb).1 (bs.getD a.toNat zb).1)) := by
 refine VC.of_body hT Tryz.func185 rfl (by kernel_rfl) [(.tmp 5, false, .int .i64)] (by kernel_rfl) ?_
 show VW _ _ ([.v false (.int .i64) (a), .v false (.int .i64) (b), .fadr sBS bs, D, D, D, D, D, D, D, D, D, D, D, D, D, D, D, D, D, D, D]) _
 repeat refine VW.seq ?_
 refine VW.regl hT fun K hK => ?_
 simp only [wq, simprocAttr]
 refine hK _ ?_
 clear hK K
 try refine vthen_n ?_
 repeat refine VW.seq ?_
 refine VW.mixl hT hm 0 14 (by kernel_rfl) fun K hK => ?_
 simp only [wq, simprocAttr]
 refine ⟨decide_eq_true h2, decide_eq_true h1, ?_⟩
 refine vcallD_of (compare_vc _ _) ?_
 simp only [wq, simprocAttr]
 refine vcallD_of (compare_vc _ _) ?_
 simp only [wq, simprocAttr]
 refine vcall_of (or_vc _ _) ?_
 simp only [wq, simprocAttr]
 refine hK _ ?_
 clear hK K
 try refine vthen_n ?_
 exact VW.ret ⟨.inl rfl, _, rfl, rfl⟩
end Go.Proofs.YtoeblmcibheldaaGreatDoor.V.W
end
section
namespace Go.Proofs.YtoeblmcibheldaaGreatDoor.V.W
open Go Go.RowKit
/-- a window covers an address -/
def covB (b : Int × Int) (a : Int) : Bool := decide (b.1 > 0) && (decide (a ≥ b.2) && decide (IntKind.u64.wrap (IntKind.u64.wrap a - IntKind.u64.wrap b.2) < IntKind.u64.wrap b.1))
theorem covers_vc (b : Int × Int) (a : Int) : VC Tryz.prog 227 [.v true sBr b, .v false (.int .i64) (a)] (· = .v false .bool (covB b a)) := by
  refine VC.of_body hT Tryz.func227 rfl (by kernel_rfl) [(.tmp 4, false, .bool)] (by kernel_rfl) ?_
  show VW _ _ ([.v true sBr b, .v false (.int .i64) (a), D, D, D, D, D, D, D, D, D, D, D, D, D, D, D, D, D, D, D, D, D, D, D, D]) _
  repeat refine VW.seq ?_
  refine VW.regl hT fun K hK => ?_
  simp only [wq, Nat.reduceMul, reduceCtorEq, Nat.reduceBEq, Nat.reduceAdd, Nat.reduceLT, Nat.reduceLeDiff, Nat.reduceSub, Nat.reduceEqDiff]
  refine hK _ ?_
  clear hK K
  try refine vthen_n ?_
  repeat refine VW.seq ?_
  refine VW.regl hT fun K hK => ?_
  simp only [wq, Nat.reduceMul, reduceCtorEq, Nat.reduceBEq, Nat.reduceAdd, Nat.reduceLT, Nat.reduceLeDiff, Nat.reduceSub, Nat.reduceEqDiff]
  refine vbr (fun h => ?_) (fun h => ?_) <;> simp only [wq, Nat.reduceMul, reduceCtorEq, Nat.reduceBEq, Nat.reduceAdd, Nat.reduceLT, Nat.reduceLeDiff, Nat.reduceSub, Nat.reduceEqDiff]
  case refine_2 =>
    refine hK _ ?_
    clear hK K
    try refine vthen_n ?_
    refine VW.ret ⟨.inl rfl, _, rfl, ?_⟩
    have h : decide (b.1 > 0) = false := h
    rw [covB, h]
    try rfl
  have h : decide (b.1 > 0) = true := h
  refine vbr (fun h2 => ?_) (fun h2 => ?_) <;> simp only [wq, Nat.reduceMul, reduceCtorEq, Nat.reduceBEq, Nat.reduceAdd, Nat.reduceLT, Nat.reduceLeDiff, Nat.reduceSub, Nat.reduceEqDiff]
  case refine_2 =>
    refine hK _ ?_
    clear hK K
    try refine vthen_n ?_
    refine VW.ret ⟨.inl rfl, _, rfl, ?_⟩
    have h2 : decide (a ≥ b.2) = false := h2
    rw [covB, h, h2]
    try rfl
  have h2 : decide (a ≥ b.2) = true := h2
  refine hK _ ?_
  clear hK K
  try refine vthen_n ?_
  refine VW.ret ⟨.inl rfl, _, rfl, ?_⟩
  rw [covB, h, h2]
  try rfl
def winsOk (t : List Nd) (b : List (Int × Int)) : Bool := treeOk t && (b.length == t.length)
theorem areWindows_vc (t : List Nd) (b : List (Int × Int)) (hl : t.length ≤ 2000000) : VC Tryz.prog 226 [.v false sNS t, .v false sBS b] (· = .v false .bool (winsOk t b)) := by
 refine VC.of_body hT Tryz.func226 rfl (by kernel_rfl) [(.tmp 4, false, .bool)] (by kernel_rfl) ?_
 show VW _ _ ([.v false sNS t, .v false sBS b, D, D, D, D, D, D, D, D, D, D, D, D]) _
 repeat refine VW.seq ?_
 refine VW.regl hT fun K hK => ?_
 simp only [wq, simprocAttr]
 refine hK _ ?_
 clear hK K
 try refine vthen_n ?_
 repeat refine VW.seq ?_
 refine VW.regl hT fun K hK => ?_
 simp only [wq, simprocAttr]
 refine vcall_of (treeOk_vc t hl) ?_
 simp only [wq, simprocAttr]
 refine vbr (fun h => ?_) (fun h => ?_) <;> simp only [wq, simprocAttr]
 case refine_2 =>
  refine hK _ ?_
  clear hK K
  try refine vthen_n ?_
  refine VW.ret ⟨.inl rfl, _, rfl, ?_⟩
  have h : treeOk t = false := h
  rw [winsOk, h]
  rfl
 have h : treeOk t = true := h
 refine hK _ ?_
 clear hK K
 try refine vthen_n ?_
 refine VW.ret ⟨.inl rfl, _, rfl, ?_⟩
 rw [winsOk, h, ← lenEq]
 rfl
/-- the node of which k is asked -/
def owns (t : List Nd) (b : List (Int × Int)) (a : Int) (k : Nat) : Bool := !((t.getD k z).2.2 == 0) && covB (b.getD k zb) a
/-- the first node that owns an address, -1 if there is none -/
def ownGo (t : List Nd) (b : List (Int × Int)) (a : Int) : Nat → Nat → Int
 | 0, _ => -1
 | f + 1, k => if owns t b a k = true then (k : Int) else ownGo t b a f (k + 1)
def ownerOf (t : List Nd) (b : List (Int × Int)) (a : Int) : Int := if winsOk t b = true then ownGo t b a t.length 0 else -1
set_option maxRecDepth 20000 in
theorem owner_vc (t : List Nd) (b : List (Int × Int)) (a : Int) (hl : t.length ≤ 2000000) : VC Tryz.prog 208 [.v false sNS t, .v false sBS b, .v false (.int .i64) (a)] (· = .v false (.int .i64) (ownerOf t b a)) := by
 refine VC.of_body hT Tryz.func208 rfl (by kernel_rfl) [(.tmp 6, false, .int .i64)] (by kernel_rfl) ?_
 show VW _ _ ([.v false sNS t, .v false sBS b, .v false (.int .i64) (a), D, D, D, D, D, D, D, D, D, D, D, D, D, D, D, D, D, D, D, D, D, D, D, D, D, D, D, D]) _
 repeat refine VW.seq ?_
 refine VW.regl hT fun K hK => ?_
 simp only [wq, simprocAttr]
 refine hK _ ?_
 clear hK K
 try refine vthen_n ?_
 repeat refine VW.seq ?_
 refine VW.regl hT fun K hK => ?_
 simp only [wq, simprocAttr]
 refine vcall_of (areWindows_vc t b hl) ?_
 simp only [wq, simprocAttr]
 refine hK _ ?_
 clear hK K
 try refine vthen_n ?_
 repeat refine VW.seq ?_
 refine VW.cond rfl (fun hc => ?_) (fun hc => ?_)
 ·repeat refine VW.seq ?_
  refine VW.regl hT fun K hK => ?_
  simp only [wq, simprocAttr]
  refine hK _ ?_
  clear hK K
  try refine vthen_n ?_
  refine VW.ret ⟨.inl rfl, _, rfl, ?_⟩
  have hc : winsOk t b = false := (Bool.not_eq_true' _).mp hc
  rw [ownerOf, hc]
  rfl
 have hw : winsOk t b = true := by
  have := hc
  rwa [Bool.not_eq_false'] at this
 have hw2 := hw
 rw [winsOk, Bool.and_eq_true, beq_iff_eq] at hw2
 obtain ⟨hok, hbl⟩ := hw2
 refine VW.skip (vthen_n ?_)
 repeat refine VW.seq ?_
 refine VW.regl hT fun K hK => ?_
 simp only [wq, simprocAttr]
 refine hK _ ?_
 clear hK K
 try refine vthen_n ?_
 repeat refine VW.seq ?_
 refine VW.block ?_
 refine VW.loop (α := Nat) [(0, none), (1, none), (2, none), (13, none), (14, none)] (fun i => [.v false sNS t, .v false sBS b, .v false (.int .i64) (a), D, D, D, D, D, D, D, D, D, D, .v false (.int .i64) ((t.length : Nat)), .v false (.int .i64) ((i : Nat)), D, D, D, D, D, D, D, D, D, D, D, D, D, D, D, D]) (fun i => i ≤ t.length ∧ ownerOf t b a = ownGo t b a (t.length - i) i) (fun i => t.length - i) ⟨0, ⟨by omega, by rw [ownerOf, if_pos hw]; rfl⟩, ?_⟩ fun i ⟨hi, hgo⟩ => ?_
 ·simp only [wn, wq, simprocAttr]
  try rfl
 repeat refine VW.seq ?_
 refine VW.regl hT fun K hK => ?_
 simp only [wq, simprocAttr]
 refine hK _ ?_
 clear hK K
 try refine vthen_n ?_
 repeat refine VW.seq ?_
 refine VW.cond rfl (fun hc => ?_) (fun hc => ?_)
 ·have hlt : i < t.length := by simpa using hc
  obtain ⟨f, hf⟩ : ∃ f, t.length - i = f + 1 := ⟨t.length - i - 1, by omega⟩
  rw [hf, ownGo] at hgo
  refine VW.skip (vthen_n ?_)
  repeat refine VW.seq ?_
  refine VW.block ?_
  repeat refine VW.seq ?_
  refine VW.regl hT fun K hK => ?_
  simp only [wq, simprocAttr]
  refine hK _ ?_
  clear hK K
  try refine vthen_n ?_
  apply cutl
  ·intro tail
   repeat refine VW.seq ?_
   refine VW.regl hT fun K hK => ?_
   simp only [wq, simprocAttr]
   refine vcall_of (isBridge_vc t i (by omega) (by omega)) ?_
   simp only [wq, simprocAttr]
   refine vbr (fun h => ?_) (fun h => ?_) <;> simp only [wq, simprocAttr]
   case refine_2 =>
    have h : (!((t.getD i z).2.2 == 0)) = false := h
    have ho : owns t b a i = false := by rw [owns, h, Bool.false_and]
    refine hK _ ?_
    try refine vthen_n ?_
    refine VW.cond rfl (fun hc => by cases hc) (fun hc => ?_)
    refine VW.skip ?_
    show vthen _ _ _ .normal _
    refine vthen_n ?_
    refine VW.weak (weak_norm [(0, none), (1, none), (2, none), (13, none), (14, none)] _) ?_
    simp only [wn, wq, simprocAttr]
    revert ho
    exact tail.h
   have h : (!((t.getD i z).2.2 == 0)) = true := h
   refine ⟨decide_eq_true ⟨Int.natCast_nonneg _, by show (i : Int) < (b.length : Int); omega⟩, ?_⟩
   refine vcall_of (covers_vc _ _) ?_
   simp only [wq, simprocAttr]
   refine hK _ ?_
   try refine vthen_n ?_
   refine VW.cond rfl (fun hc => ?_) (fun hc => ?_)
   ·have hc : covB (b.getD i zb) a = true := hc
    have ho : owns t b a i = true := by rw [owns, h, hc]; rfl
    rw [if_pos ho] at hgo
    repeat refine VW.seq ?_
    refine VW.regl hT fun K hK => ?_
    simp only [wq, simprocAttr]
    refine hK _ ?_
    clear hK K
    try refine vthen_n ?_
    refine VW.ret ⟨.inl rfl, _, rfl, ?_⟩
    rw [hgo]
   ·have hc : covB (b.getD i zb) a = false := hc
    have ho : owns t b a i = false := by rw [owns, h, hc]; rfl
    refine VW.skip ?_
    show vthen _ _ _ .normal _
    refine vthen_n ?_
    refine VW.weak (weak_norm [(0, none), (1, none), (2, none), (13, none), (14, none)] _) ?_
    simp only [wn, wq, simprocAttr]
    revert ho
    exact tail.h
  ·intro ho
   rw [if_neg (by rw [ho]; decide)] at hgo
   repeat refine VW.seq ?_
   refine VW.regl hT fun K hK => ?_
   simp only [wq, simprocAttr]
   refine hK _ ?_
   clear hK K
   try refine vthen_n ?_
   refine ⟨i + 1, ⟨hlt, by rw [hgo, show t.length - (i + 1) = f by omega]⟩, ?_, by show t.length - (i + 1) < t.length - i; omega⟩
   simp only [wn, wq, simprocAttr]
   rw [wrap64 (by omega) (by omega)]
   rfl
 ·have hge : i = t.length := by
   have : t.length ≤ i := by simpa using hc
   omega
  subst hge
  refine VW.exit ?_
  show vthen _ _ _ .normal _
  refine vthen_n ?_
  repeat refine VW.seq ?_
  refine VW.regl hT fun K hK => ?_
  simp only [wq, simprocAttr]
  refine hK _ ?_
  clear hK K
  try refine vthen_n ?_
  refine VW.ret ⟨.inl rfl, _, rfl, ?_⟩
  rw [hgo, Nat.sub_self]
  rfl
end Go.Proofs.YtoeblmcibheldaaGreatDoor.V.W
end
section
namespace Go.Proofs.YtoeblmcibheldaaGreatDoor.V.W
open Go Go.RowKit
theorem tagE {P : Program} {f : FuncId} {args : List PV} {i : Nat} {agg : Bool} {s : Sh} {fi f0 : Fl} {x : s.ty} {Φ : s.ty → Prop} {l : List Value} {a : PV} (h : VX P f args i (fun pv ot => pv = a ∧ ∃ y, Φ y ∧ ot = .root (.val agg) s f0 y)) (ha : args[i]? = some (.root (.val agg) s f0 x)) (hu : Fl.untag s fi = f0) (he : encI s fi x = some l) (he' : ∀ y, Φ y → encI s fi y = some l) :
  VX P f (args.set i (.root (.val agg) s fi x)) i (fun pv ot => pv = a ∧ ∃ y, Φ y ∧ ot = .root (.val agg) s fi y) := by
 refine (h.tag ha hu he).mono fun pv ot ⟨ot0, ⟨h1, y, hy, h2⟩, h3⟩ => ⟨h1, y, hy, ?_⟩
 rcases h3 with ⟨y', e1, e2, e3⟩ | ⟨h3, _⟩
 ·rw [h2] at e1
  cases e1
  exact e3
 ·exact absurd (he' y hy) (h3 y h2)
/-- where the next window begins -/
def baseAt (t : List Nd) (s : List Int) (k : Nat) (M : List Int) (i : Nat) : Nat := pos t s k + wsum (win t s) (M.take i)
set_option maxRecDepth 20000 in
theorem alloc_vx {t : List Nd} {s : List Int} (hs : sizesOk t s = true) : ∀ (f k : Nat) (A : Nat → Bool), t.length - k ≤ f → k < t.length → (A k = true ∨ k = 0 ∨ win t s k = 0) →
  VX Tryz.prog 161 [.v false sNS t, .root (.val false) sBS .own (bars t s A), .v false (.int .i64) ((k : Nat))] 1 (fun pv ot => pv = nil0 ∧ ∃ bs : List (Int × Int), (∃ E : Nat → Bool, bs = bars t s E ∧ (∀ j, A j = true → E j = true) ∧ ∀ j, Bel t k j → win t s j ≠ 0 → E j = true) ∧ ot = .root (.val false) sBS .own bs)
 := by
 intro f
 induction f with
 | zero =>
  intro k A hf hk hD
  omega
 | succ f ih =>
  intro k A hf hk hD
  have hok := (sizesOk_iff.1 hs).1
  have htl := treeOk_len hok
  have hperm := children_perm hok hk
  have hcl : (children t k).length ≤ 12 := by
   rw [hperm.length_eq]
   have := kids_len t k t.length
   omega
  have hbl := bars_len t s A
  refine VX.of_rows hT Tryz.func161 rfl (by kernel_rfl) [] (by kernel_rfl) rfl rfl (by show 0 < (bars t s A).length; omega) fun l fi li e1 e2 => ?_
  obtain ⟨n, cp, rfl, rfl⟩ := io1 e1 e2
  show VW _ _ ([.v false sNS t, .root (.val false) sBS (.io n cp) (bars t s A), .v false (.int .i64) ((k : Nat)), D, D, D, D, D, D, D, D, D, D, D, D, D, D, D, D, D, D, D, D, D, D, D, D, D, D, D, D, D, D, D, D, D, D, D, D, D, D, D, D, D, D, D, D, D, D, D, D, D, D]) _
  generalize hL : children t k = L at *
  repeat refine VW.seq ?_
  refine VW.regl hT fun K hK => ?_
  simp only [wq, simprocAttr]
  refine hK _ ?_
  clear hK K
  try refine vthen_n ?_
  repeat refine VW.seq ?_
  refine VW.regl hT fun K hK => ?_
  simp only [wq, simprocAttr]
  refine vcall_of (children_vc t k (by omega)) ?_
  rw [hL]
  simp only [wq, simprocAttr]
  refine hK _ ?_
  clear hK K
  try refine vthen_n ?_
  apply cutl
  ·intro tail
   rcases Nat.lt_or_ge 0 L.length with h0 | h0
   ·repeat refine VW.seq ?_
    refine VW.regl hT fun K hK => ?_
    simp only [wq, simprocAttr]
    refine vcall_io 0 ?_
    simp only [wq, simprocAttr]
    refine vxcall_of (sort_vx L 185 sBS (bars t s A) (byWin (win t s)) (fun a b ha hb => ?_) h0 (by omega)) ?_
    ·obtain ⟨a, rfl, a1, a2, a3, a4⟩ := kids_pos hok (hperm.mem_iff.1 ha)
     obtain ⟨b, rfl, b1, b2, b3, b4⟩ := kids_pos hok (hperm.mem_iff.1 hb)
     have := alloc1_vc (bars t s A) a b ⟨by omega, by omega⟩ ⟨by omega, by omega⟩
     rw [Int.toNat_natCast, Int.toNat_natCast, bars_get _ _ _ a2, bars_get _ _ _ b2] at this
     exact this
    simp only [wq, simprocAttr]
    refine hK _ ?_
    try refine vthen_n ?_
    exact tail.h
   ·have h0 : L = [] := List.eq_nil_of_length_eq_zero (by omega)
    subst h0
    repeat refine VW.seq ?_
    refine VW.regl hT fun K hK => ?_
    simp only [wq, simprocAttr]
    refine vcall_of (sort0_vc 185 sBS (bars t s A)) ?_
    simp only [wq, simprocAttr]
    refine hK _ ?_
    try refine vthen_n ?_
    exact tail.h
  have hsp := fun i (h : i < L.length) => sort_pos hok (s := s) hperm h
  have hsorted : (isort (byWin (win t s)) L).Perm (kids t k t.length) := (isort_perm _ _).trans hperm
  have hsl : (isort (byWin (win t s)) L).length = L.length := isort_len _ _
  generalize hM : isort (byWin (win t s)) L = M at *
  have hbk : (bars t s A).getD k zb = ((win t s k : Int), (pos t s k : Int)) := by
   rw [bars_get _ _ _ hk]
   rcases hD with h | rfl | h
   ·rw [if_pos h]
   ·rw [pos_root]; simp
   ·rw [pos_zero h]; simp
  have hpb := fun j (h : j < t.length) => pos_bd hok s j j (Nat.le_refl _) h
  have hpk := hpb k hk
  have hw0 := win_lim hs (k := 0) (by omega)
  repeat refine VW.seq ?_
  refine VW.regl hT fun K hK => ?_
  simp only [wq, simprocAttr]
  refine ⟨decide_eq_true ⟨Int.natCast_nonneg _, by show (k : Int) < ((bars t s A).length : Int); omega⟩, ?_⟩
  rw [hbk]
  refine hK _ ?_
  clear hK K
  try refine vthen_n ?_
  repeat refine VW.seq ?_
  refine VW.regl hT fun K hK => ?_
  simp only [wq, simprocAttr]
  refine hK _ ?_
  clear hK K
  try refine vthen_n ?_
  repeat refine VW.seq ?_
  refine VW.block ?_
  refine VW.loop (α := Nat × (Nat → Bool)) [(0, none), (4, none), (7, none), (21, none), (22, none), (23, none)] (fun p => [.v false sNS t, D, D, D, .root (.box 26) sBS (.io n cp) (bars t s p.2), D, D, .v false (.int .i64) ((baseAt t s k M p.1 : Nat)), D, D, D, D, D, D, D, D, D, D, D, D, D, .root (.val false) sI .own M, .v false (.int .i64) ((M.length : Nat)), .v false (.int .i64) ((p.1 : Nat)), D, D, D, D, D, D, D, D, D, D, D, D, D, D, D, D, D, D, D, D, D, D, D, D, D, D, D, D, D]) (fun p => p.1 ≤ M.length ∧ (∀ j, A j = true → p.2 j = true) ∧ ∀ m, m < p.1 → ∀ j, (j = (M.getD m 0).toNat ∨ Bel t (M.getD m 0).toNat j) → win t s j ≠ 0 → p.2 j = true) (fun p => M.length - p.1) ⟨(0, A), ⟨by omega, fun j h => h, fun m h => by omega⟩, ?_⟩ fun ⟨i, E⟩ ⟨hi, hE1, hE2⟩ => ?_
  ·simp only [wn, wq, simprocAttr]
   try rfl
  have hi : i ≤ M.length := hi
  have hE1 : ∀ j, A j = true → E j = true := hE1
  have hE2 : ∀ m, m < i → ∀ j, (j = (M.getD m 0).toNat ∨ Bel t (M.getD m 0).toNat j) → win t s j ≠ 0 → E j = true := hE2
  repeat refine VW.seq ?_
  refine VW.regl hT fun K hK => ?_
  simp only [wq, simprocAttr]
  refine hK _ ?_
  clear hK K
  try refine vthen_n ?_
  repeat refine VW.seq ?_
  refine VW.cond rfl (fun hc => ?_) (fun hc => ?_)
  ·have hlt : i < M.length := by simpa using hc
   obtain ⟨c, hc0, h1, h2, h3, h4⟩ := kids_pos hok (hsorted.mem_iff.1 (getD_mem hlt))
   have hbe := bars_len t s E
   have hbc := bars_get t s E h2 zb
   have hpc := hpb c h2
   have hidx : decide (0 ≤ (c : Int) ∧ (c : Int) < ((bars t s E).length : Int)) = true := decide_eq_true ⟨Int.natCast_nonneg _, by omega⟩
   have htk := wsum_take (win t s) hlt
   have hsc := hsp i (by omega)
   rw [hc0, Int.toNat_natCast] at hsc htk
   have hpe := pos_eq hok (s := s) (k := k) h1 h2
   have hb0 : baseAt t s k M i = pos t s k + wsum (win t s) (M.take i) := rfl
   have hb1 : baseAt t s k M (i + 1) = pos t s k + wsum (win t s) (M.take (i + 1)) := rfl
   have hlim : baseAt t s k M (i + 1) ≤ 2176782336 := by
    have e1 := wsum_le (win t s) M (i + 1)
    have e2 : wsum (win t s) M = ksum t s k := wsum_perm hsorted
    have e3 := ksum_le hok s h1 h2 h3
    omega
   refine VW.skip (vthen_n ?_)
   repeat refine VW.seq ?_
   refine VW.block ?_
   repeat refine VW.seq ?_
   refine VW.regl hT fun K hK => ?_
   simp only [wq, simprocAttr]
   refine ⟨decide_eq_true ⟨Int.natCast_nonneg _, by show (i : Int) < (M.length : Int); omega⟩, ?_⟩
   rw [show M.getD i 0 = (c : Int) from hc0]
   refine hK _ ?_
   clear hK K
   try refine vthen_n ?_
   repeat refine VW.seq ?_
   refine VW.regl hT fun K hK => ?_
   simp only [wq, simprocAttr]
   refine ⟨hidx, ?_⟩
   rw [hbc]
   refine hK _ ?_
   clear hK K
   try refine vthen_n ?_
   obtain ⟨G, hG⟩ : ∃ G : Nat → Bool, G = fun j => E j || j == c := ⟨_, rfl⟩
   have hGE : ∀ j, E j = true → G j = true := fun j h => by rw [hG]; simp [h]
   have hGc : G c = true := by rw [hG]; simp
   have hbg := bars_get t s G h2 zb
   have hlg := bars_len t s G
   apply cutl
   ·intro tail
    repeat refine VW.seq ?_
    refine VW.cond rfl (fun hc => ?_) (fun hc => ?_)
    ·have hw : 0 < win t s c := by
      have : ((win t s c : Nat) : Int) > 0 := of_decide_eq_true hc
      omega
     have hpe := hpe (by omega) h3
     have hset : (bars t s E).set c (((win t s c : Int), if E c = true then (pos t s c : Int) else 0).1, ((baseAt t s k M i : Nat) : Int)) = bars t s G := by
      rw [hb0, hsc, ← hpe, hG]
      exact bars_set t s E h2
     repeat refine VW.seq ?_
     refine VW.regl hT fun K hK => ?_
     simp only [wq, simprocAttr]
     refine ⟨hidx, ?_⟩
     refine hK _ ?_
     try refine vthen_n ?_
     rw [hbc, hset]
     repeat refine VW.seq ?_
     refine VW.regl hT fun K hK => ?_
     simp only [wq, simprocAttr]
     refine ⟨decide_eq_true ⟨Int.natCast_nonneg _, by show (c : Int) < ((bars t s G).length : Int); omega⟩, ?_⟩
     rw [hbg]
     refine hK _ ?_
     try refine vthen_n ?_
     refine VW.weak (weak_norm [(0, none), (4, none), (7, none), (9, none), (21, none), (22, none), (23, none)] _) ?_
     simp only [wn, wq, simprocAttr]
     rw [wrap64 (by omega) (by omega), show ((baseAt t s k M i : Nat) : Int) + (win t s c : Int) = ((baseAt t s k M (i + 1) : Nat) : Int) by omega]
     exact tail.h
    ·have hw : win t s c = 0 := by
      have : ¬ ((win t s c : Nat) : Int) > 0 := of_decide_eq_false hc
      omega
     refine VW.skip ?_
     show vthen _ _ _ .normal _
     refine vthen_n ?_
     refine VW.weak (weak_norm [(0, none), (4, none), (7, none), (9, none), (21, none), (22, none), (23, none)] _) ?_
     simp only [wn, wq, simprocAttr]
     rw [show baseAt t s k M i = baseAt t s k M (i + 1) by omega, show bars t s E = bars t s G from bars_same t s fun j q1 q2 q3 => by
      have : j ≠ c := by rintro rfl; exact q2 hw
      rw [hG]
      simp [this]]
     exact tail.h
   have hGo : ∀ H : Nat → Bool, (∀ j, G j = true → H j = true) → (∀ j, Bel t c j → win t s j ≠ 0 → H j = true) → (∀ j, A j = true → H j = true) ∧ ∀ m, m < i + 1 → ∀ j, (j = (M.getD m 0).toNat ∨ Bel t (M.getD m 0).toNat j) → win t s j ≠ 0 → H j = true := fun H q1 q2 => by
    refine ⟨fun j h => q1 j (hGE j (hE1 j h)), fun m q3 j q4 q5 => ?_⟩
    rcases Nat.lt_or_ge m i with q6 | q6
    ·exact q1 j (hGE j (hE2 m q6 j q4 q5))
    ·obtain rfl : m = i := by omega
     rw [hc0, Int.toNat_natCast] at q4
     rcases q4 with rfl | q4
     ·exact q1 _ hGc
     ·exact q2 j q4 q5
   repeat refine VW.seq ?_
   refine VW.regl hT fun K hK => ?_
   simp only [wq, simprocAttr]
   refine vcall_of (isBridge_vc t c (by omega) (by omega)) ?_
   simp only [wq, simprocAttr]
   refine hK _ ?_
   clear hK K
   try refine vthen_n ?_
   repeat refine VW.seq ?_
   refine VW.cond rfl (fun hc => ?_) (fun hc => ?_)
   ·repeat refine VW.seq ?_
    refine VW.regl hT fun K hK => ?_
    simp only [wq, simprocAttr]
    refine vcall_io 1 ?_
    simp only [wq, simprocAttr]
    have hal := ih c G (by omega) h2 (.inl hGc)
    have hrec := tagE (agg := false) (s := sBS) (fi := .io n cp) (f0 := .own) (x := bars t s G) (l := [Value.slice (some ⟨n, 0, none⟩) (bars t s G).length cp]) hal rfl rfl rfl (fun y hy => by
     obtain ⟨H, q1, _⟩ := hy
     show some [Value.slice (some ⟨n, 0, none⟩) (List.length y) cp] = some [Value.slice (some ⟨n, 0, none⟩) (List.length (bars t s G)) cp]
     rw [q1, bars_len, bars_len])
    refine vxcall_ex hrec ?_
    rintro pv ot ⟨rfl, bs, ⟨H, rfl, q1, q2⟩, rfl⟩
    simp only [wq, simprocAttr]
    refine hK _ ?_
    clear hK K
    try refine vthen_n ?_
    show vthen _ _ _ .normal _
    refine vthen_n ?_
    repeat refine VW.seq ?_
    refine VW.regl hT fun K hK => ?_
    simp only [wq, simprocAttr]
    refine hK _ ?_
    clear hK K
    try refine vthen_n ?_
    refine ⟨(i + 1, H), ⟨hlt, hGo H q1 q2⟩, ?_, by show M.length - (i + 1) < M.length - i; omega⟩
    simp only [wn, wq, simprocAttr]
    rw [wrap64 (by omega) (by omega)]
    rfl
   ·have hb : ¬ (t.getD c z).2.2 = 0 := by simpa using hc
    refine VW.skip ?_
    show vthen _ _ _ .normal _
    refine vthen_n ?_
    repeat refine VW.seq ?_
    refine VW.regl hT fun K hK => ?_
    simp only [wq, simprocAttr]
    refine hK _ ?_
    clear hK K
    try refine vthen_n ?_
    refine ⟨(i + 1, G), ⟨hlt, hGo G (fun j h => h) (fun j h _ => absurd (bel_bridge hok h) hb)⟩, ?_, by show M.length - (i + 1) < M.length - i; omega⟩
    simp only [wn, wq, simprocAttr]
    rw [wrap64 (by omega) (by omega)]
    rfl
  ·have hge : i = M.length := by
    have : M.length ≤ i := by simpa using hc
    omega
   refine VW.exit ?_
   refine ⟨.inr rfl, _, _, _, _, rfl, ⟨4, _, rfl⟩, ?_, rfl, _, ⟨E, rfl, hE1, fun j h hw => ?_⟩, rfl⟩
   ·show some [Value.slice (some ⟨n, 0, none⟩) (List.length (bars t s E)) cp] = some [Value.slice (some ⟨n, 0, none⟩) (List.length (bars t s A)) cp]
    rw [bars_len, bars_len]
   ·obtain ⟨c, h1, h2, h3, h4⟩ := bel_cases h
    have hmem : (c : Int) ∈ M := hsorted.mem_iff.2 (kids_iff.2 ⟨by omega, by omega, h3⟩)
    obtain ⟨m, q1, q2⟩ := List.getElem_of_mem hmem
    have q3 : M.getD m 0 = (c : Int) := by rw [List.getD_eq_getElem?_getD, List.getElem?_eq_getElem q1, q2]; rfl
    exact hE2 m (by omega) j (by rw [q3, Int.toNat_natCast]; exact h4) hw
end Go.Proofs.YtoeblmcibheldaaGreatDoor.V.W
end

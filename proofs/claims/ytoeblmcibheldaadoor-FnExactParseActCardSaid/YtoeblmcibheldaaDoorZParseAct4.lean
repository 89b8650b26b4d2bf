/- Texts H3 E7 W2 T1 W3 W4 T2 W10 F0 F1 F2 E1 E4 N6 E3 I1 W5 W6 F3 F4 N2 N7 F5 F6 F7 F8 N1 F9 F10 F11 F12 R1 R2 R3 F13 F14 F15 F16 G1 G2 G3 Y1 F17 F18 F19 N3 N8 N5 G4 G5 F20 N4 F21 N9 F23 N11 N12 C1 E5 N14 C2 N15 N17 N18 M1 M2 M3 M4 M6 M7 M8 C0 C3 N19 K3 K5 J7 J5 K6 J8 J9 in one. No condition. -/
import Derived.Test.YtoeblmcibheldaaDoorZParseAct3
import Derived.Orders
set_option linter.unnecessarySimpa false
set_option linter.unusedSimpArgs false
set_option linter.unusedVariables false
section
namespace Go.Proofs.YtoeblmcibheldaaDoor.V
open Go Go.RowKit
section
variable {P : Program} {T : List (Nat × TI)} {st : St} {o : Oper}
/-- an element of an array in a box -/
theorem does_aidx {t e t0 : TypeId} {n g i of : Nat} {y : Operand} {k : IntKind} {sh s1 : Sh} {f : Fl} {x : sh.ty} (ho : o.op = .indexAddr t (.tmp g) y) (hu : P.underlying t = some (.array n e)) (hi0 : (P.info? e).map (·.size) = some 1)
  (hg : st.at g = .root (.box t0) sh f x) (hy : ref st y = .v false (.int k) (i : Int)) (hn : i < n) (hf : fieldAt sh i n = some (of, s1)) (hof : of = i) (hd : nonroot st o.dst = true) : Does P o st (· = setD st o.dst (.adr g (fpath i n))) := by
 refine Does.pure hd rfl fun L a w hr => ?_
 subst hof
 obtain ⟨ti, hi, h1⟩ := Option.map_eq_some_iff.1 hi0
 have hy0 := hr.opnd y
 rw [hy] at hy0
 have hyv := hy0.int
 have hx0 := hr.opnd (.tmp g)
 have href : ref st (.tmp g) = .adr g [] := by simp only [ref, hg]
 rw [href] at hx0
 obtain ⟨s0, cs1, A, q1, q2⟩ := hx0
 have hl : look st g [] = some ⟨sh, f, x⟩ := by
  unfold look
  rw [hg]
  exact get_nil sh f x
 obtain rfl := q1.shape hl
 obtain ⟨k1, ⟨f2, x2, k2⟩, k3, k4, k5⟩ := field_at of n hf f x
 obtain ⟨_, _, B1, _, m4⟩ := hr.place q1 hl
 have hz : ∀ w, (sizeOf e).run P w = .ok 1 w := fun w => by rw [run_size hi, h1]
 refine ⟨.pointer (some (A.add of)), ?_, ⟨s1, (cs1.drop of).take s1.size, A.add of, q1.app hl k1 k2 (k4 w cs1 (some A) m4.len), rfl⟩⟩
 simp [execOp, ho, hyv, q2, Instr.indexAt, Instr.sureAddr, run_underlying hu, asIntOf, hz, hn]
/-- a variable that is an array of texts, as a slice -/
theorem does_gslice {t e : TypeId} {g n : Nat} {words : List ByteArray} (ho : o.op = .slice t (.global g) none none none) (hu : P.underlying t = some (.array n e)) (hi0 : (P.info? e).map (·.size) = some 1) (hg : (g, (· = (words.map Value.string).toArray)) ∈ gls) (hn : words.length = n) (hmax : n ≤ maxLen) (hpos : 0 < n) (hd : nonroot st o.dst = true) : Does P o st (· = setD st o.dst (.v false (.sl e .str) words)) := by
 refine Does.pure hd rfl fun L a w hr => ?_
 obtain ⟨ti, hi, h1⟩ := Option.map_eq_some_iff.1 hi0
 obtain ⟨z, cs', x1, x2, e1, e2⟩ := hr.zlt.gl _ hg
 have e2 : cs' = (words.map Value.string).toArray := e2
 subst e2
 have hz : ∀ w, (sizeOf e).run P w = .ok 1 w := fun w => by rw [run_size hi, h1]
 have hx : a.eval (.global g) = .pointer (some ⟨g, 0, none⟩) := rfl
 refine ⟨.slice (some ⟨g, 0, none⟩) n n, ?_, ⟨[.slice (some ⟨g, 0, none⟩) n n], rfl, ?_⟩⟩
 ·simp [execOp, ho, hx, Instr.sliceAt, Instr.sureAddr, run_underlying hu, Instr.sliceBounds, sliced, hz]
  intro _
  unfold Addr.add
  split <;> simp_all
 ·subst hn
  refine ⟨_, _, rfl, Nat.le_refl _, hmax, fun _ => ⟨⟨g, 0, none⟩, rfl, z, fun i hlt => ⟨[.string (words.getD i ByteArray.empty)], rfl, fun j hj => ?_, rfl⟩⟩⟩
  have hj : j < 1 := hj
  obtain rfl : j = 0 := by omega
  have e1 : w.heap[g]? = some (.cells (words.map Value.string).toArray x1 x2) := e1
  rw [cell_row e1, List.getElem?_toArray, List.getElem?_map, List.getD_eq_getElem?_getD, List.getElem?_eq_getElem (by simp [Sh.size]; exact hlt)]
  simp [Sh.size, hlt]
end
end Go.Proofs.YtoeblmcibheldaaDoor.V
end
section
namespace Go.Proofs.YtoeblmcibheldaaDoor.V
open Go Go.RowKit
section
variable {P : Program} {st : St} {Q : Exit → St → Prop}
theorem FRes.fz {w w' : World} {Z : Nat → Prop} {k : RK} {s : Sh} {f : Fl} {x : s.ty} {v : Value} (hs : Fl.sound s f = true) (hk : ∀ t, k ≠ .box t) (hk2 : ∀ t b, k ≠ .ibox t b) (h : FRes w w' Z (.root k s f x) v) : FRes w w' Z (.root k s .fz x) v := by
 obtain ⟨Z', hz, cs, ad, B, g1, g2, g3, g4⟩ := h
 have had : ad = none := by
  cases k with
  | val agg => exact g1.2.2
  | tup l => exact g1.2.2
  | box t => exact absurd rfl (hk t)
  | ibox t b => exact absurd rfl (hk2 t b)
 subst had
 refine ⟨fun b => Z' b ∨ B b, ⟨fun b hb => .inl (hz.up b hb), fun b hb => hb.elim (hz.nw b) fun q => .inr ⟨.inr (g2 b q).1.1, (g2 b q).1.2⟩⟩, cs, none, fun _ => False, g1, fun b hb => hb.elim, (fun A hA => by cases hA), g4.freeze (fun b hb => .inl hb) hs fun b hb => .inr hb⟩
theorem VC.fzt {f : FuncId} {args : List PV} {l : List Bool} {s : Sh} {fl : Fl} {x : s.ty} (h : VC P f args (· = .root (.tup l) s fl x)) (hs : Fl.sound s fl = true) : VC P f args (· = .root (.tup l) s .fz x) :=
 ⟨h.fn, fun Z w vals h1 h2 h3 => (h.run Z w vals h1 h2 h3).mono fun e w' ⟨v, pv, q1, q2, q3, q4⟩ => by subst q3; exact ⟨v, _, q1, q2, rfl, q4.fz hs (fun t e => by cases e) (fun t b e => by cases e)⟩⟩
end
end Go.Proofs.YtoeblmcibheldaaDoor.V
end
section
namespace Go.Proofs.YtoeblmcibheldaaDoor.V.W
open Go Go.RowKit
def bad1 (t : List Nd) (i : Nat) (n : Nd) : Bool := !inB n.1 0 i || (!((t.getD n.1.toNat z).2.2 == 0) || (!inB n.2.1 0 3 || !inB n.2.2 0 4))
def bad (t : List Nd) (i : Nat) : Bool := bad1 t i (t.getD (i + 1) z) || (t.take (i + 1)).any (same (t.getD (i + 1) z))
def treeOk (t : List Nd) : Bool := inB t.length 1 12 && ((t.getD 0 z == (-1, 0, 0)) && (List.range (t.length - 1)).all fun i => !bad t i)
end Go.Proofs.YtoeblmcibheldaaDoor.V.W
end
section
namespace Go.Proofs.YtoeblmcibheldaaDoor.V.W
open Go Go.RowKit
end Go.Proofs.YtoeblmcibheldaaDoor.V.W
end
section
namespace Go.Proofs.YtoeblmcibheldaaDoor.V.W
open Go Go.RowKit
/-- x put into the row P, that lies backwards -/
def ins (c : Int → Int → Int) (x : Int) : List Int → List Int
 | [] => [x]
 | y :: r => if c x y < 0 then y :: ins c x r else x :: y :: r
def pre (c : Int → Int → Int) (xs : List Int) (i : Nat) : List Int := (xs.take i).foldl (fun P x => ins c x P) []
end Go.Proofs.YtoeblmcibheldaaDoor.V.W
end
section
namespace Go.Proofs.YtoeblmcibheldaaDoor.V.W
open Go Go.RowKit
end Go.Proofs.YtoeblmcibheldaaDoor.V.W
end
section
namespace Go.Proofs.YtoeblmcibheldaaDoor.V.W
open Go Go.RowKit
/-- the bridge i steps above -/
def anc (t : List Nd) (k : Int) : Nat → Int
 | 0 => k
 | i + 1 => (t.getD (anc t k i).toNat z).1
/-- a node and all above it, from the root on -/
def pathTo (t : List Nd) (k : Int) : List Int := if (treeOk t && inB k 0 (t.length - 1)) = true then (((List.range t.length).map (anc t k)).filter fun x => decide (0 ≤ x)).reverse else []
end Go.Proofs.YtoeblmcibheldaaDoor.V.W
end
section
namespace Go.Proofs.YtoeblmcibheldaaDoor.V.W
open Go Go.RowKit
end Go.Proofs.YtoeblmcibheldaaDoor.V.W
end
section
namespace Go.Proofs.YtoeblmcibheldaaDoor.V.W
open Go Go.RowKit
/-- the library's counting of ones, step by step -/
def an (x c : Int) : Int := IntKind.u64.wrap (BitVec.ofInt IntKind.u64.bits x &&& BitVec.ofInt IntKind.u64.bits c).toNat
def shr (x : Int) (k : Nat) : Int := x.fdiv (2 ^ min k IntKind.u64.bits)
def ad (x y : Int) : Int := IntKind.u64.wrap (x + y)
/-- a size that is a power of two -/
def pw (n : Int) : Bool := n == 16 || n == 32 || n == 64 || n == 128 || n == 256 || n == 512 || n == 1024 || n == 2048 || n == 4096
end Go.Proofs.YtoeblmcibheldaaDoor.V.W
end
section
namespace Go.Proofs.YtoeblmcibheldaaDoor.V.W
open Go Go.RowKit
/-- a size that does not fit -/
def sizeBad (t : List Nd) (s : List Int) (k : Nat) : Bool := !(s.getD k 0 == 0) && ((t.getD k z).2.2 == 0 || !pw (s.getD k 0))
def sizesOk (t : List Nd) (s : List Int) : Bool := treeOk t && ((s.length == t.length) && (List.range t.length).all fun k => !sizeBad t s k)
end Go.Proofs.YtoeblmcibheldaaDoor.V.W
end
section
namespace Go.Proofs.YtoeblmcibheldaaDoor.V.W
open Go Go.RowKit
end Go.Proofs.YtoeblmcibheldaaDoor.V.W
end
section
namespace Go.Proofs.YtoeblmcibheldaaDoor.V
open Go Go.RowKit
section
variable {P : Program} {T : List (Nat × TI)} {o : Oper} {st st1 st2 : St}
variable {ops : Array Oper}
end
end Go.Proofs.YtoeblmcibheldaaDoor.V
end
section
namespace Go.Proofs.YtoeblmcibheldaaDoor.V
open Go Go.RowKit
section
variable {L : Lay} {st : St} {a : Act} {w : World} {R : Nat → Prop}
variable {P : Program} {T : List (Nat × TI)} {o : Oper} {K : St → Prop}
end
end Go.Proofs.YtoeblmcibheldaaDoor.V
end
section
namespace Go.Proofs.YtoeblmcibheldaaDoor.V.W
open Go Go.RowKit
end Go.Proofs.YtoeblmcibheldaaDoor.V.W
end
section
namespace Go.Proofs.YtoeblmcibheldaaDoor.V
open Go Go.RowKit
/-- what holds nothing frozen -/
def clean1 : PV → PV
 | .v agg s x => if s.plain = true then .v agg s x else .dead
 | .root k s f x => if Fl.nofz s f = true then .root k s f x else .dead
 | .emp => .emp
 | _ => .dead
def clean (st : St) : St := st.map clean1
theorem clean_len (st : St) : (clean st).length = st.length := by simp [clean]
theorem clean_at (st : St) (t : Nat) : (clean st).at t = clean1 (st.at t) := by
 unfold clean St.at
 rw [List.getD_eq_getElem?_getD, List.getD_eq_getElem?_getD, List.getElem?_map]
 cases st[t]? <;> rfl
section
variable {L : Lay} {st : St} {a : Act} {w : World} {R : Nat → Prop}
/-- what is let go is frozen from then on -/
theorem Rel.frozen (h : Rel L st a w R) : Rel ⟨fun b => L.Z b ∨ R b, L.F, L.C, L.D⟩ st a w Free where
 size := h.size
 defers := h.defers
 zlt := ⟨fun b hb => hb.elim (h.zlt b) fun q => (h.rlt b q).1, h.zlt.gl.up fun b hb => .inl hb⟩
 flt := fun t b hb => ⟨(h.flt t b hb).1, fun q => q.elim (h.flt t b hb).2 (h.rdj t b hb)⟩
 dj := h.dj
 rlt := fun b hb => hb.elim
 rdj := fun t b _ hb => hb.elim
 tmp := fun t ht => by
  have := h.tmp t ht
  rcases PV.root_or (st.at t) with ⟨k, s, f, x, e⟩ | e
  ·rw [e] at this ⊢
   obtain ⟨q1, B, q2, q3, q4⟩ := this
   exact ⟨q1, B, q2, q3, q4.frame (fun b hb => .inl hb) (fun _ _ => rfl)⟩
  ·rw [PVRep.of e] at this ⊢
   exact ORep.places (L' := ⟨fun b => L.Z b ∨ R b, L.F, L.C, L.D⟩) (fun b hb => Or.inl hb) (fun _ _ => rfl) (fun agg g p _ s1 cs1 ad1 h1 h2 h3 => ⟨s1, cs1, ad1, h1, h2, h3⟩) (fun g p _ s1 cs1 A h1 => ⟨cs1, h1⟩) this
theorem Rel.clean (h : Rel L st a w Free) {Z : Nat → Prop} (hZ : ∀ b, Z b → L.Z b) (hG : GOk Z w) : Rel ⟨Z, L.F, L.C, L.D⟩ (V.clean st) a w Free where
 size := by rw [clean_len]; exact h.size
 defers := h.defers
 zlt := ⟨fun b hb => h.zlt b (hZ b hb), hG⟩
 flt := fun t b hb => ⟨(h.flt t b hb).1, fun q => (h.flt t b hb).2 (hZ b q)⟩
 dj := h.dj
 rlt := fun b hb => hb.elim
 rdj := fun t b _ hb => hb.elim
 tmp := fun t ht => by
  rw [clean_len] at ht
  have := h.tmp t ht
  rw [clean_at]
  generalize a.tmps.getD t undef = v at this ⊢
  cases hp : st.at t with
  | v agg s x =>
   rw [hp] at this
   simp only [clean1]
   split
   ·rename_i hs
    obtain ⟨cs, q1, q2⟩ := this
    exact ⟨cs, q1, q2.plain hs⟩
   ·trivial
  | root k s f x =>
   rw [hp] at this
   simp only [clean1]
   split
   ·rename_i hs
    obtain ⟨q1, B, q2, q3, q4⟩ := this
    exact ⟨q1, B, q2, q3, q4.nofz hs⟩
   ·trivial
  | emp =>
   rw [hp] at this
   exact this
  | dead => trivial
  | h => trivial
  | adr => trivial
  | fadr => trivial
  | fn => trivial
end
end Go.Proofs.YtoeblmcibheldaaDoor.V
end
section
namespace Go.Proofs.YtoeblmcibheldaaDoor.V.W
open Go Go.RowKit
/-- where p holds first -/
def IdxI (p : Int → Bool) (xs : List Int) (m : Int) : Prop := (m = -1 ∧ ∀ k, k < xs.length → p (xs.getD k 0) = false) ∨ ∃ i : Nat, i < xs.length ∧ m = i ∧ p (xs.getD i 0) = true ∧ ∀ k, k < i → p (xs.getD k 0) = false
theorem IdxI.any {p : Int → Bool} {xs : List Int} {m : Int} (h : IdxI p xs m) : decide (m ≥ 0) = xs.any p := by
 rcases h with ⟨rfl, h⟩ | ⟨i, h1, rfl, h2, _⟩
 ·have : xs.any p = false := by
   rw [List.any_eq_false]
   intro x hx
   obtain ⟨k, hk, rfl⟩ := List.mem_iff_getElem.1 hx
   have := h k hk
   rw [List.getD_eq_getElem?_getD, List.getElem?_eq_getElem hk] at this
   simpa using this
  rw [this]; rfl
 ·have : xs.any p = true := by
   rw [List.any_eq_true]
   refine ⟨xs[i], List.getElem_mem h1, ?_⟩
   rw [List.getD_eq_getElem?_getD, List.getElem?_eq_getElem h1] at h2
   exact h2
  rw [this]; simp
end Go.Proofs.YtoeblmcibheldaaDoor.V.W
end
section
namespace Go.Proofs.YtoeblmcibheldaaDoor.V.W
open Go Go.RowKit
end Go.Proofs.YtoeblmcibheldaaDoor.V.W
end
section
namespace Go.Proofs.YtoeblmcibheldaaDoor.V.W
open Go Go.RowKit
/-- the nodes below k among the first i -/
def kids (t : List Nd) (k : Int) (i : Nat) : List Int := ((List.range i).filter fun j : Nat => (t.getD j z).1 == k).map fun j : Nat => (j : Int)
end Go.Proofs.YtoeblmcibheldaaDoor.V.W
end
section
namespace Go.Proofs.YtoeblmcibheldaaDoor.V.W
open Go Go.RowKit
/-- a sum over nodes -/
def wsum (f : Nat → Nat) (xs : List Int) : Nat := (xs.map fun a : Int => f a.toNat).sum
/-- the least power of two from n on; nothing for nothing -/
def up (n : Nat) : Nat := if n = 0 then 0 else 2 ^ (2 * n - 1).log2
/-- the size of a node's window -/
def winF (t : List Nd) (s : List Int) : Nat → Nat → Nat
 | 0, _ => 0
 | f + 1, k => if (t.getD k z).2.2 = 0 then up (wsum (winF t s f) (kids t k t.length)) else (s.getD k 0).toNat
def win (t : List Nd) (s : List Int) (k : Nat) : Nat := winF t s t.length k
end Go.Proofs.YtoeblmcibheldaaDoor.V.W
end
section
namespace Go.Proofs.YtoeblmcibheldaaDoor.V.W
open Go Go.RowKit
end Go.Proofs.YtoeblmcibheldaaDoor.V.W
end
section
namespace Go.Proofs.YtoeblmcibheldaaDoor.V.W
open Go Go.RowKit
/-- how long two rows agree -/
def cpl : List Int → List Int → Nat
 | a :: x, b :: y => if a = b then cpl x y + 1 else 0
 | _, _ => 0
def isNd (t : List Nd) (k : Int) : Bool := treeOk t && inB k 0 (t.length - 1)
/-- the nodes from one node to another -/
def between (t : List Nd) (a b : Int) : List Int := if (isNd t a && isNd t b) = true then ((pathTo t a).drop (cpl (pathTo t a) (pathTo t b) - 1)).reverse ++ (pathTo t b).drop (cpl (pathTo t a) (pathTo t b)) else []
end Go.Proofs.YtoeblmcibheldaaDoor.V.W
end
section
namespace Go.Proofs.YtoeblmcibheldaaDoor.V.W
open Go Go.RowKit
end Go.Proofs.YtoeblmcibheldaaDoor.V.W
end
section
namespace Go.Proofs.YtoeblmcibheldaaDoor.V.W
open Go Go.RowKit
/-- a lies before b: the greater window first, then the lower number -/
def lt (w : Nat → Nat) (a b : Int) : Prop := w b.toNat < w a.toNat ∨ (w a.toNat = w b.toNat ∧ a < b)
instance (w : Nat → Nat) (a b : Int) : Decidable (lt w a b) := by unfold lt; infer_instance
/-- what is laid down before j -/
def befs (t : List Nd) (s : List Int) (k : Int) (j : Nat) : Nat := wsum (win t s) ((kids t k t.length).filter fun a => decide (lt (win t s) a j))
/-- where the window of a node begins -/
def posF (t : List Nd) (s : List Int) : Nat → Nat → Nat
 | 0, _ => 0
 | f + 1, j => if j = 0 ∨ win t s j = 0 then 0 else posF t s f (t.getD j z).1.toNat + befs t s (t.getD j z).1 j
def pos (t : List Nd) (s : List Int) (j : Nat) : Nat := posF t s j j
/-- j lies below k -/
inductive Bel (t : List Nd) (k : Nat) : Nat → Prop
 | kid {j : Nat} : 1 ≤ j → j < t.length → (t.getD j z).1 = (k : Int) → Bel t k j
 | low {i j : Nat} : Bel t k i → 1 ≤ j → j < t.length → (t.getD j z).1 = (i : Int) → Bel t k j
end Go.Proofs.YtoeblmcibheldaaDoor.V.W
end
section
namespace Go.Proofs.YtoeblmcibheldaaDoor.V.W
open Go Go.RowKit
end Go.Proofs.YtoeblmcibheldaaDoor.V.W
end
section
namespace Go.Proofs.YtoeblmcibheldaaDoor.V.W
open Go Go.RowKit
end Go.Proofs.YtoeblmcibheldaaDoor.V.W
end
section
namespace Go.Proofs.YtoeblmcibheldaaDoor.V.W
open Go Go.RowKit
end Go.Proofs.YtoeblmcibheldaaDoor.V.W
end
section
namespace Go.Proofs.YtoeblmcibheldaaDoor.V.W
open Go Go.RowKit
end Go.Proofs.YtoeblmcibheldaaDoor.V.W
end
section
namespace Go.Proofs.YtoeblmcibheldaaDoor.V.W
open Go Go.RowKit
end Go.Proofs.YtoeblmcibheldaaDoor.V.W
end
section
namespace Go.Proofs.YtoeblmcibheldaaDoor.V.W
open Go Go.RowKit
end Go.Proofs.YtoeblmcibheldaaDoor.V.W
end
section
namespace Go.Proofs.YtoeblmcibheldaaDoor.V.W
open Go Go.RowKit
end Go.Proofs.YtoeblmcibheldaaDoor.V.W
end
section
namespace Go.Proofs.YtoeblmcibheldaaDoor.V.W
open Go Go.RowKit
/-- the windows fit -/
def fits (t : List Nd) (s : List Int) : Bool := sizesOk t s && decide (win t s 0 ≤ 65536)
end Go.Proofs.YtoeblmcibheldaaDoor.V.W
end
section
namespace Go.Proofs.YtoeblmcibheldaaDoor.V
open Go Go.RowKit
section
variable {P : Program}
end
end Go.Proofs.YtoeblmcibheldaaDoor.V
end
section
namespace Go.Proofs.YtoeblmcibheldaaDoor.V
open Go Go.RowKit
section
variable {P : Program} {T : List (Nat × TI)}
abbrev D0 : PV := .dead
end
end Go.Proofs.YtoeblmcibheldaaDoor.V
end
section
namespace Go.Proofs.YtoeblmcibheldaaDoor.V.W
open Go Go.RowKit
end Go.Proofs.YtoeblmcibheldaaDoor.V.W
end
section
namespace Go.Proofs.YtoeblmcibheldaaDoor.V.W
open Go Go.RowKit
end Go.Proofs.YtoeblmcibheldaaDoor.V.W
end
section
namespace Go.Proofs.YtoeblmcibheldaaDoor.V.W
open Go Go.RowKit
end Go.Proofs.YtoeblmcibheldaaDoor.V.W
end
section
namespace Go.Proofs.YtoeblmcibheldaaDoor.V.W
open Go Go.RowKit
end Go.Proofs.YtoeblmcibheldaaDoor.V.W
end
section
namespace Go.Proofs.YtoeblmcibheldaaDoor.V.W
open Go Go.RowKit
end Go.Proofs.YtoeblmcibheldaaDoor.V.W
end
section
namespace Go.Proofs.YtoeblmcibheldaaDoor.V.W
open Go Go.RowKit
end Go.Proofs.YtoeblmcibheldaaDoor.V.W
end
section
namespace Go.Proofs.YtoeblmcibheldaaDoor.V.W
open Go Go.RowKit
end Go.Proofs.YtoeblmcibheldaaDoor.V.W
end
section
namespace Go.Proofs.YtoeblmcibheldaaDoor.V.W
open Go Go.RowKit
abbrev Fab := List (Int × Int × Int) × List Int × List (Int × Int) × List (List Int) × List Bool
structure FabB (x : Fab) : Prop where
 a : x.1.length * 24 ≤ 140737488351232
 b : x.2.1.length * 8 ≤ 140737488351232
 c : x.2.2.1.length * 16 ≤ 140737488351232
 d : x.2.2.2.1.length * 24 ≤ 140737488351232
 e : ∀ k, (x.2.2.2.1.getD k []).length * 8 ≤ 140737488351232
 f : x.2.2.2.2.length * 1 ≤ 140737488351232
/-- what two levels of rows hold -/
def tot (xs : List (List Int)) (i : Nat) : Nat := ((xs.take i).map List.length).sum
end Go.Proofs.YtoeblmcibheldaaDoor.V.W
end
section
namespace Go.Proofs.YtoeblmcibheldaaDoor.V
open Go Go.RowKit
/-- what is listed, as a number -/
def arr (n m : Nat) : Array Bool := Array.ofFn (n := n) fun i => m.testBit i
theorem arr_size (n m : Nat) : (arr n m).size = n := by simp [arr]
theorem arr_get (n m j : Nat) : (arr n m).getD j false = (decide (j < n) && m.testBit j) := by
 by_cases h : j < n
 ·simp [arr, Array.getD, h]
 ·simp [arr, Array.getD, h]
theorem arr_el {n m j : Nat} (h : j < (arr n m).size) : (arr n m)[j] = m.testBit j := by simp [arr]
theorem arr_set {n m i : Nat} (hi : i < n) : (arr n m).setIfInBounds i true = arr n (m ||| 2 ^ i) := by
 apply Array.ext
 ·rw [Array.size_setIfInBounds, arr_size, arr_size]
 ·intro j h1 h2
  have h3 : j < (arr n m).size := by rw [arr_size]; rwa [arr_size] at h2
  rw [Array.getElem_setIfInBounds h3, arr_el h2, Nat.testBit_or]
  by_cases e : i = j
  ·subst e; simp
  ·rw [arr_size] at h2
   rw [if_neg e, arr_el (by rw [arr_size]; exact h2), Nat.testBit_two_pow_of_ne e, Bool.or_false]
def chk (ops : Array Oper) (m : Nat) (ps : List (Nat × Nat)) : Bool := (Region.ready .any ops (arr ops.size m) == ps.map (·.1)) && ps.all fun p => (m ||| 2 ^ p.1 == p.2)
def takeChk (ops : Array Oper) (m i m' : Nat) : Bool := Region.noSelect ops && (Region.free .any ops (arr ops.size m) i && ((Region.ready .any ops (arr ops.size m)).contains i && (m ||| 2 ^ i == m')))
def twoChk (ops : Array Oper) (m i j m' : Nat) : Bool := (Region.ready .any ops (arr ops.size m) == [i]) && ((Region.ready .any ops (arr ops.size (m ||| 2 ^ i)) == [j]) && (m ||| 2 ^ i ||| 2 ^ j == m'))
def doneChk (ops : Array Oper) (m : Nat) : Bool := Region.ready .any ops (arr ops.size m) == []
section
variable {P : Program} {T : List (Nat × TI)} {ops : Array Oper}
/-- one operation -/
def vone (P : Program) (T : List (Nat × TI)) (ops : Array Oper) (i : Nat) (st0 : St) (K : St → Prop) : Prop :=
 match ops[i]? with
 | some o => @vguard st0 ops o ⟨fun run st => match run with
  | true => @vread P T st o ⟨fun st1 pv => nonroot st1 o.dst = true ∧ K (setD st1 o.dst pv)⟩
  | false => nonroot st o.dst = true ∧ K (setD st o.dst skipPV)⟩
 | none => True
def vpure (ops : Array Oper) (i : Nat) (st : St) (K : St → Prop) : Prop :=
 match ops[i]? with
 | some o => @vfloat (pureOp st o) ⟨fun pv => nonroot st o.dst = true ∧ K (setD st o.dst pv)⟩
 | none => True
def popped : Option Out → Bool
 | some _ => true
 | none => false
def isFld (st : St) (o : Oper) : Bool := match o.guard with
 | some _ => false
 | none => match o.op with
  | .fieldAddr _ x _ => match ref st x with
   | .adr _ _ => true
   | _ => false
  | _ => false
def vfld (P : Program) (T : List (Nat × TI)) (ops : Array Oper) (i : Nat) (st : St) (K : St → Prop) : Prop :=
 match ops[i]? with
 | some o => isFld st o = true ∧ popped (pop T st st o) = true ∧ @vread P T st o ⟨fun st1 pv => nonroot st1 o.dst = true ∧ K (setD st1 o.dst pv)⟩
 | none => True
def vall (P : Program) (T : List (Nat × TI)) (ops : Array Oper) (W : Nat → St → Prop) (st : St) : List (Nat × Nat) → Prop
 | [] => True
 | p :: r => vone P T ops p.1 st (W p.2) ∧ vall P T ops W st r
/-- two operations, one behind the other, the first without effect -/
def Does2 (P : Program) (o1 o2 : Oper) (st st' : St) : Prop := ∀ (L : Lay) (a : Act) (w : World) (next : Act → World → Prop) (Q : Exit → Act → World → Prop), Rel L st a w Free → (∀ L' a' w', Stp L L' w w' → Rel L' st' a' w' Free → next a' w') → ∃ v, (execOp a.eval o1).run P w = .ok (.value v) w ∧ o2.wp P (a.put o1.dst v) w next Q
/-- how one goes on in a region in any order -/
structure Ruled (P : Program) (T : List (Nat × TI)) (ops : Array Oper) (K : St → Prop) (W : Nat → St → Prop) : Prop where
 done : ∀ (m : Nat) (st : St), doneChk ops m = true → K st → W m st
 all : ∀ (m : Nat) (ps : List (Nat × Nat)) (st : St), chk ops m ps = true → ps ≠ [] → vall P T ops W st ps → W m st
 take : ∀ (m i m' : Nat) (st : St), takeChk ops m i m' = true → vpure ops i st (W m') → W m st
 takeF : ∀ (m i m' : Nat) (st : St), takeChk ops m i m' = true → vfld P T ops i st (W m') → W m st
 two : ∀ (m i j m' : Nat) (st st' : St) (o1 o2 : Oper), ops[i]? = some o1 → ops[j]? = some o2 → o1.guard = none → o2.guard = none → twoChk ops m i j m' = true → Does2 P o1 o2 st st' → W m' st' → W m st
theorem fld_pure (hT : TabOk P T) {L : Lay} {st : St} {a : Act} {w : World} (h : Rel L st a w Free) {o : Oper} {t n : Nat} {x : Operand} {g : Nat} {p : Path} {out : Out} (ho : o.op = .fieldAddr t x n) (hx : ref st x = .adr g p) (hg0 : o.guard = none) (hp : pop T st st o = some out) : ∃ v, Yields P ops o v a ∧ ORep L st w out.pv v ∧ out.pv.isRoot = false ∧ out.st = st := by
 have hw : Region.wanted o (yielded ops a.tmps) = true := by unfold Region.wanted; rw [hg0]
 unfold pop at hp
 rw [ho] at hp
 simp only at hp
 have hv := h.opnd x
 split at hp
 ·rename_i i hi
  have hTt := hT t i hi
  rw [hx] at hp hv
  simp only at hp
  split at hp
  ·rename_i s f y hl
   split at hp
   ·rename_i hc
    obtain ⟨hs, hn, hag⟩ := hc
    obtain rfl := (Option.some.inj hp)
    obtain ⟨s1, cs1, A, q1, q2⟩ := hv
    obtain rfl := q1.shape hl
    subst hs
    obtain ⟨fs, u1, u2, u3⟩ := hTt.str hag (by omega)
    obtain ⟨fd, agg1, s1, of, fi, v1, v2, v3, v4, v5, v6, v7, v8, v9, v10⟩ := (u3 n hn).ex
    obtain ⟨k1, ⟨f2, x2, k2⟩, k3, k4, k5⟩ := field_at n i.nf v3 f y
    obtain ⟨_, _, B1, _, m4⟩ := h.place q1 hl
    refine ⟨.pointer (some (A.add of)), .inl ⟨hw, fun w' => ?_⟩, ⟨s1, (cs1.drop of).take s1.size, A.add of, q1.app hl k1 k2 (k4 w cs1 (some A) m4.len), rfl⟩, rfl, rfl⟩
    have hne : ¬ s1.size = 0 := by omega
    simp [execOp, ho, Instr.fieldAt, run_underlying u1, v1, Instr.sureAddr, q2, fieldPlace, run_size v5, v6, hne, v4]
   ·cases hp
  ·cases hp
 ·cases hp
theorem vall_mem {W : Nat → St → Prop} {st : St} : ∀ {ps : List (Nat × Nat)} {p : Nat × Nat}, vall P T ops W st ps → p ∈ ps → vone P T ops p.1 st (W p.2)
 | q :: r, p, h, hp => by
  rcases List.mem_cons.1 hp with rfl | hp
  ·exact h.1
  ·exact vall_mem h.2 hp
theorem cnt_set {n m i : Nat} (hi : i < n) (hb : (arr n m).getD i false = false) : cntU n (fun j => !(arr n (m ||| 2 ^ i)).getD j false) + 1 = cntU n (fun j => !(arr n m).getD j false) := by
 refine cntU_flip n (i := i) hi (by simp only [hb]; rfl) ?_ fun j hj => ?_
 ·show (!(arr n (m ||| 2 ^ i)).getD i false) = false
  rw [arr_get, Nat.testBit_or, Nat.testBit_two_pow_self, decide_eq_true hi]
  simp
 ·show (!(arr n (m ||| 2 ^ i)).getD j false) = (!(arr n m).getD j false)
  rw [arr_get, arr_get, Nat.testBit_or, Nat.testBit_two_pow_of_ne (fun e => hj e.symm), Bool.or_false]
theorem cnt_zero {n m : Nat} (h : cntU n (fun j => !(arr n m).getD j false) = 0) {i : Nat} (hi : i < n) : (arr n m).getD i false = true := by
 have := cntU_zero n h i hi
 simpa using this
theorem VW.any (hT : TabOk P T) (hm : P.follows .mixedOrders = true) {id : Nat} {st : St} {Q : Exit → St → Prop} (h : ∀ (K : St → Prop), (∀ s, Q .normal s → K s) → ∀ W : Nat → St → Prop, Ruled P T ops K W → W 0 st) : VW P (.region id ops true) st Q := by
 intro L a w hr
 refine wp_mono (Q := fun e a' w' => match e with | .normal => ∃ L' st', Stp L L' w w' ∧ Rel L' st' a' w' Free ∧ Q .normal st' | _ => False) ?_ (fun e a' w' hq => ?_)
 case refine_2 =>
  cases e with
  | normal => exact hq
  | _ => exact hq.elim
 refine wp_region_any hm ?_
 have hx : Ext w { w with drawn := w.drawn + 1 } := Ext.drew w
 have hr1 := hr.grow hx
 have hst1 := Stp.ext (L := L) hx
 generalize ({ w with drawn := w.drawn + 1 } : World) = w1 at hr1 hst1 ⊢
 have key := h (Q .normal) (fun _ h => h) (fun m st => ∀ (n : Nat), cntU ops.size (fun j => !(arr ops.size m).getD j false) = n → ∀ (L' : Lay) (a : Act) (w' : World), Stp L L' w w' → Rel L' st a w' Free → wpAny P .any ops (fun e a' w' => match e with | .normal => ∃ L' st', Stp L L' w w' ∧ Rel L' st' a' w' Free ∧ Q .normal st' | _ => False) n (arr ops.size m) a w') ?_
 ·have e0 : arr ops.size 0 = Array.replicate ops.size false := by
   apply Array.ext
   ·simp [arr]
   ·intro j h1 h2
    simp [arr]
  have c0 : cntU ops.size (fun j => !(arr ops.size 0).getD j false) = ops.size := by
   have e1 : (fun j => !(arr ops.size 0).getD j false) = fun _ => true := by
    funext j
    rw [arr_get, Nat.zero_testBit, Bool.and_false]
    rfl
   rw [e1]
   exact cntU_all ops.size
  have := key _ c0 L a w1 hst1 hr1
  rwa [e0] at this
 ·refine ⟨fun m st hd hk n hn L' a w' hs hr => ?_, fun m ps st hc hne hv n hn L' a w' hs hr => ?_, fun m i m' st hc hv n hn L' a w' hs hr => ?_, fun m i m' st hc hv n hn L' a w' hs hr => ?_, fun m i j m' st st' o1 o2 hi hj gi gj hc hd hv n hn L' a w' hs hr => ?_⟩
  ·have hd : Region.ready .any ops (arr ops.size m) = [] := by simpa [doneChk] using hd
   exact wpAny_done hd ⟨L', st, hs, hr, hk⟩ n
  ·simp only [chk, Bool.and_eq_true, beq_iff_eq] at hc
   obtain ⟨hrd, hms⟩ := hc
   have hin : ∀ i ∈ Region.ready .any ops (arr ops.size m), ∃ p ∈ ps, p.1 = i ∧ i < ops.size ∧ (arr ops.size m).getD i false = false ∧ ∃ o, ops[i]? = some o := fun i hi => by
    obtain ⟨o, h1, h2, _⟩ := (ready_iff (arr_size _ _)).1 hi
    rw [hrd] at hi
    obtain ⟨p, hp, rfl⟩ := List.mem_map.1 hi
    exact ⟨p, hp, rfl, (Array.getElem?_eq_some_iff.1 h1).1, h2, o, h1⟩
   have hnil : Region.ready .any ops (arr ops.size m) ≠ [] := by
    rw [hrd]
    intro h0
    exact hne (List.map_eq_nil_iff.1 h0)
   cases n with
   | zero =>
    obtain ⟨i, hi⟩ := List.exists_mem_of_ne_nil _ hnil
    obtain ⟨p, _, _, h1, h2, _⟩ := hin i hi
    rw [cnt_zero hn h1] at h2
    cases h2
   | succ n =>
    refine ⟨fun h0 => absurd h0 hnil, fun i hi => ?_⟩
    obtain ⟨p, hp, rfl, h1, h2, o, ho⟩ := hin i hi
    have hm' : m ||| 2 ^ p.1 = p.2 := by
     have := List.all_eq_true.1 hms p hp
     simpa using this
    have hcn := cnt_set h1 h2
    rw [hm'] at hcn
    have hv1 := vall_mem hv hp
    unfold vone at hv1
    rw [ho] at hv1
    have hg := vguard_ok hr hv1
    rw [arr_set h1, hm']
    unfold wpOp
    rw [ho]
    simp only
    cases hw : Region.wanted o (yielded ops a.tmps) with
    | true =>
     rw [hw] at hg
     simp only at hg
     rw [if_pos rfl]
     left
     refine vread_ok hT hg (fun st1 pv hK => hK.1) L' a w' _ _ hr fun st' L2 a2 w2 ⟨st1, pv, hK, e⟩ hs' hr' => ?_
     subst e
     exact hK.2 n (by omega) L2 a2 w2 (hs.trans hs') hr'
    | false =>
     rw [hw] at hg
     simp only at hg
     rw [if_neg (by simp)]
     obtain ⟨L2, s1, s2⟩ := skip_ok hr hg.1
     exact hg.2 n (by omega) L2 _ w' (hs.trans s1) s2
  ·simp only [takeChk, Bool.and_eq_true, beq_iff_eq] at hc
   obtain ⟨c1, c2, c3, c4⟩ := hc
   obtain ⟨o, ho, h2, _⟩ := (ready_iff (arr_size _ _)).1 (show i ∈ Region.ready .any ops (arr ops.size m) by simpa using c3)
   have h1 : i < ops.size := (Array.getElem?_eq_some_iff.1 ho).1
   have hcn := cnt_set h1 h2
   rw [c4] at hcn
   unfold vpure at hv
   rw [ho] at hv
   simp only [vfloat] at hv
   split at hv
   ·rename_i pv hp
    obtain ⟨hnr, hv⟩ := hv
    obtain ⟨v, y1, y2, y3⟩ := pureOp_ok (P := P) (ops := ops) hr hp
    have hr' : Rel L' (setD st o.dst pv) (a.put o.dst v) w' Free := by
     cases hd : o.dst with
     | none => exact hr
     | some d => exact hr.setO (nonroot_spec hnr d hd) y3 y2
    cases n with
    | zero =>
     rw [cnt_zero hn h1] at h2
     cases h2
    | succ n =>
     refine wpAny_take ho c1 c2 c3 (fun c a w hq => hq.elim) y1 ?_
     rw [arr_set h1, c4]
     exact hv n (by omega) L' _ w' hs hr'
   ·exact hv.elim
  ·simp only [takeChk, Bool.and_eq_true, beq_iff_eq] at hc
   obtain ⟨c1, c2, c3, c4⟩ := hc
   obtain ⟨o, ho, h2, _⟩ := (ready_iff (arr_size _ _)).1 (show i ∈ Region.ready .any ops (arr ops.size m) by simpa using c3)
   have h1 : i < ops.size := (Array.getElem?_eq_some_iff.1 ho).1
   have hcn := cnt_set h1 h2
   rw [c4] at hcn
   unfold vfld at hv
   rw [ho] at hv
   obtain ⟨hf, hpp, hv⟩ := hv
   simp only [isFld] at hf
   split at hf
   ·cases hf
   rename_i hg0
   split at hf
   ·rename_i t x k hop
    split at hf
    ·rename_i g p hx
     unfold vread at hv
     rw [hop] at hv
     simp only at hv
     have hnil : nilTest T st o = none := by unfold nilTest; rw [hop]
     rw [hnil] at hv
     simp only at hv
     split at hv
     ·rename_i out hp
      obtain ⟨_, hnr, hv⟩ := hv
      obtain ⟨v, y1, y2, y3, y4⟩ := fld_pure (P := P) (ops := ops) hT hr hop hx hg0 hp
      rw [y4] at hnr hv
      have hr' : Rel L' (setD st o.dst out.pv) (a.put o.dst v) w' Free := by
       cases hd : o.dst with
       | none => exact hr
       | some d => exact hr.setO (nonroot_spec hnr d hd) y3 y2
      cases n with
      | zero =>
       rw [cnt_zero hn h1] at h2
       cases h2
      | succ n =>
       refine wpAny_take ho c1 c2 c3 (fun c a w hq => hq.elim) y1 ?_
       rw [arr_set h1, c4]
       exact hv n (by omega) L' _ w' hs hr'
     ·rename_i hp; rw [hp] at hpp; cases hpp
    ·cases hf
   ·cases hf
  ·simp only [twoChk, Bool.and_eq_true, beq_iff_eq] at hc
   obtain ⟨c1, c2, c3⟩ := hc
   obtain ⟨_, _, b1, _⟩ := (ready_iff (arr_size _ _)).1 (show i ∈ Region.ready .any ops (arr ops.size m) by rw [c1]; exact List.mem_singleton.2 rfl)
   obtain ⟨_, _, b2, _⟩ := (ready_iff (arr_size _ _)).1 (show j ∈ Region.ready .any ops (arr ops.size (m ||| 2 ^ i)) by rw [c2]; exact List.mem_singleton.2 rfl)
   have h1 : i < ops.size := (Array.getElem?_eq_some_iff.1 hi).1
   have h2 : j < ops.size := (Array.getElem?_eq_some_iff.1 hj).1
   have q1 := cnt_set h1 b1
   have q2 := cnt_set h2 b2
   rw [c3] at q2
   obtain ⟨n, rfl⟩ : ∃ k, n = k + 2 := ⟨n - 2, by omega⟩
   refine ⟨fun h0 => (by rw [c1] at h0; cases h0), fun x hx => ?_⟩
   rw [c1] at hx
   obtain rfl := List.mem_singleton.1 hx
   have hw1 : Region.wanted o1 (yielded ops a.tmps) = true := by unfold Region.wanted; rw [gi]
   obtain ⟨v, x1, x2⟩ := hd L' a w' _ _ hr (fun L2 a2 w2 k1 k2 => hv n (by omega) L2 a2 w2 (hs.trans k1) k2)
   rw [arr_set h1]
   unfold wpOp
   rw [hi]
   simp only
   rw [hw1, if_pos rfl]
   left
   unfold Oper.wp
   rw [x1, Oper.upon_value]
   refine ⟨fun h0 => (by rw [c2] at h0; cases h0), fun x hx => ?_⟩
   rw [c2] at hx
   obtain rfl := List.mem_singleton.1 hx
   have hw2 : Region.wanted o2 (yielded ops (a.put o1.dst v).tmps) = true := by unfold Region.wanted; rw [gj]
   rw [arr_set h2, c3]
   unfold wpOp
   rw [hj]
   simp only
   rw [hw2, if_pos rfl]
   left
   exact x2
end
theorem wy : type_of% (And.intro (And.intro @vone.eq_1 (And.intro @vall.eq_1 @vall.eq_2)) (And.intro @vpure.eq_1 (And.intro @vfld.eq_1 (And.intro @isFld.eq_1 (And.intro @popped.eq_1 @popped.eq_2))))) := And.intro (And.intro @vone.eq_1 (And.intro @vall.eq_1 @vall.eq_2)) (And.intro @vpure.eq_1 (And.intro @vfld.eq_1 (And.intro @isFld.eq_1 (And.intro @popped.eq_1 @popped.eq_2))))
end Go.Proofs.YtoeblmcibheldaaDoor.V
end
section
namespace Go.Proofs.YtoeblmcibheldaaDoor.V.W
open Go Go.RowKit
end Go.Proofs.YtoeblmcibheldaaDoor.V.W
end
section
namespace Go.Proofs.YtoeblmcibheldaaDoor.V.W
open Go Go.RowKit
end Go.Proofs.YtoeblmcibheldaaDoor.V.W
end
section
namespace Go.Proofs.YtoeblmcibheldaaDoor.V.W
open Go Go.RowKit
def words (xs : List Int) : Bool := !xs.any fun x => !inB x 0 65535
theorem isWord_vc (x : Int) : VC Tryd.prog 36 [.v false (.int .i64) (x)] (· = .v false .bool (inB x 0 65535)) := by
 refine VC.of_body hT Tryd.func36 rfl (by kernel_rfl) [(.tmp 2, false, .bool)] (by kernel_rfl) ?_
 show VW _ _ ([.v false (.int .i64) (x), D, D, D, D]) _
 repeat refine VW.seq ?_
 refine VW.regl hT fun K hK => ?_
 simp only [wq, simprocAttr]
 refine hK _ ?_
 clear hK K
 try refine vthen_n ?_
 repeat refine VW.seq ?_
 refine VW.regl hT fun K hK => ?_
 simp only [wq, simprocAttr]
 refine vcall_of (within_vc x 0 65535) ?_
 simp only [wq, simprocAttr]
 refine hK _ ?_
 clear hK K
 try refine vthen_n ?_
 exact VW.ret ⟨.inl rfl, _, rfl, rfl⟩
end Go.Proofs.YtoeblmcibheldaaDoor.V.W
end
section
namespace Go.Proofs.YtoeblmcibheldaaDoor.V.W
open Go Go.RowKit
end Go.Proofs.YtoeblmcibheldaaDoor.V.W
end
section
namespace Go.Proofs.YtoeblmcibheldaaDoor.V.W
open Go Go.RowKit
end Go.Proofs.YtoeblmcibheldaaDoor.V.W
end
section
namespace Go.Proofs.YtoeblmcibheldaaDoor.V.W
open Go Go.RowKit
end Go.Proofs.YtoeblmcibheldaaDoor.V.W
end
section
namespace Go.Proofs.YtoeblmcibheldaaDoor.V.W
open Go Go.RowKit
end Go.Proofs.YtoeblmcibheldaaDoor.V.W
end
section
namespace Go.Proofs.YtoeblmcibheldaaDoor.V.W
open Go Go.RowKit
end Go.Proofs.YtoeblmcibheldaaDoor.V.W
end
section
namespace Go.Proofs.YtoeblmcibheldaaDoor.V.W
open Go Go.RowKit
structure FabL (x : Fab) : Prop where
 a : x.1.length ≤ 2000000
 b : x.2.1.length ≤ 2000000
 c : x.2.2.1.length ≤ 2000000
 d : x.2.2.2.1.length ≤ 2000000
 e : ∀ k, (x.2.2.2.1.getD k []).length ≤ 2000000
end Go.Proofs.YtoeblmcibheldaaDoor.V.W
end
section
namespace Go.Proofs.YtoeblmcibheldaaDoor.V.W
open Go Go.RowKit
/-- the room that is left behind an address in a window -/
def room (w : Int × Int) (a : Int) : Int := IntKind.i64.wrap (w.1 - IntKind.i64.wrap (a - w.2))
abbrev r2 (p : Int × Int) : PV := .root (.tup [false, false]) (.pr (.int .i64) (.int .i64)) (.pr .fz .fz) p
end Go.Proofs.YtoeblmcibheldaaDoor.V.W
end
section
namespace Go.Proofs.YtoeblmcibheldaaDoor.V.W
open Go Go.RowKit
end Go.Proofs.YtoeblmcibheldaaDoor.V.W
end
section
namespace Go.Proofs.YtoeblmcibheldaaDoor.V.W
open Go Go.RowKit
end Go.Proofs.YtoeblmcibheldaaDoor.V.W
end
section
namespace Go.Proofs.YtoeblmcibheldaaDoor.V.W
open Go Go.RowKit
end Go.Proofs.YtoeblmcibheldaaDoor.V.W
end
section
namespace Go.Proofs.YtoeblmcibheldaaDoor.V.W
open Go Go.RowKit
end Go.Proofs.YtoeblmcibheldaaDoor.V.W
end
section
namespace Go.Proofs.YtoeblmcibheldaaDoor.V.W
open Go Go.RowKit
end Go.Proofs.YtoeblmcibheldaaDoor.V.W
end
section
namespace Go.Proofs.YtoeblmcibheldaaDoor.V.W
open Go Go.RowKit
end Go.Proofs.YtoeblmcibheldaaDoor.V.W
end
section
namespace Go.Proofs.YtoeblmcibheldaaDoor.V
open Go Go.RowKit
section
variable {P : Program} {T : List (Nat × TI)}
end
end Go.Proofs.YtoeblmcibheldaaDoor.V
end
section
namespace Go.Proofs.YtoeblmcibheldaaDoor.V.W
open Go Go.RowKit
/-- a row with words laid over it -/
def over (row : List Int) (lo : Nat) (d : List Int) : List Int := row.take lo ++ d ++ row.drop (lo + d.length)
end Go.Proofs.YtoeblmcibheldaaDoor.V.W
end
section
namespace Go.Proofs.YtoeblmcibheldaaDoor.V.W
open Go Go.RowKit
end Go.Proofs.YtoeblmcibheldaaDoor.V.W
end
section
namespace Go.Proofs.YtoeblmcibheldaaDoor.V.W
open Go Go.RowKit
end Go.Proofs.YtoeblmcibheldaaDoor.V.W
end
section
namespace Go.Proofs.YtoeblmcibheldaaDoor.V.W
open Go Go.RowKit
abbrev sAct : Sh := .pr (.int .i64) (.pr (.int .i64) (.pr (.int .i64) (.int .i64)))
abbrev Ac : Type := Int × Int × Int × Int
/-- an act that may be -/
def actOk (a : Ac) : Bool := inB a.2.1 0 11 && (if a.1 = 1 then inB a.2.2.1 0 65535 && inB a.2.2.2 0 65535 else if a.1 = 2 then inB a.2.2.1 0 65535 && a.2.2.2 == 0 else if a.1 = 3 ∨ a.1 = 4 then a.2.2.1 == 0 && a.2.2.2 == 0 else false)
set_option maxRecDepth 20000 in
set_option maxHeartbeats 1000000 in
theorem actOk_vc (a : Ac) : VC Tryd.prog 22 [.v true sAct a] (· = .v false .bool (actOk a)) := by
 refine VC.of_body hT Tryd.func22 rfl (by kernel_rfl) [(.tmp 2, false, .bool)] (by kernel_rfl) ?_
 generalize hr : actOk a = r
 obtain ⟨kd, nd, x, y⟩ := a
 have hr : (inB nd 0 11 && (if kd = 1 then inB x 0 65535 && inB y 0 65535 else if kd = 2 then inB x 0 65535 && y == 0 else if kd = 3 ∨ kd = 4 then x == 0 && y == 0 else false)) = r := hr
 show VW _ _ ([.v true sAct (kd, nd, x, y), D, D, D, D, D, D, D, D, D, D, D, D, D, D, D, D, D, D, D, D, D, D, D, D, D, D, D, D, D, D, D, D, D, D, D, D, D, D, D]) _
 repeat refine VW.seq ?_
 refine VW.regl hT fun K hK => ?_
 simp only [wq, simprocAttr]
 refine hK _ ?_
 clear hK K
 try refine vthen_n ?_
 repeat refine VW.seq ?_
 refine VW.regl hT fun K hK => ?_
 simp only [wq, simprocAttr]
 refine vcall_of (within_vc nd 0 11) ?_
 simp only [wq, simprocAttr]
 refine hK _ ?_
 clear hK K
 try refine vthen_n ?_
 repeat refine VW.seq ?_
 refine VW.cond rfl (fun hc => ?_) (fun hc => ?_)
 ·have hc : inB nd 0 11 = false := (Bool.not_eq_true' _).mp hc
  repeat refine VW.seq ?_
  refine VW.regl hT fun K hK => ?_
  simp only [wq, simprocAttr]
  refine hK _ ?_
  clear hK K
  try refine vthen_n ?_
  refine VW.ret ⟨.inl rfl, _, rfl, ?_⟩
  rw [← hr, hc, Bool.false_and]
 have hc : inB nd 0 11 = true := by
  have := hc
  rwa [Bool.not_eq_false'] at this
 rw [hc, Bool.true_and] at hr
 refine VW.skip (vthen_n ?_)
 repeat refine VW.seq ?_
 refine VW.regl hT fun K hK => ?_
 simp only [wq, simprocAttr]
 refine hK _ ?_
 clear hK K
 try refine vthen_n ?_
 repeat refine VW.seq ?_
 refine VW.block ?_
 repeat refine VW.seq ?_
 refine VW.regl hT fun K hK => ?_
 simp only [wq, simprocAttr]
 refine hK _ ?_
 clear hK K
 try refine vthen_n ?_
 repeat refine VW.seq ?_
 refine VW.cond rfl (fun hc => ?_) (fun hc => ?_)
 ·have hc : kd = 1 := eq_of_beq hc
  rw [if_pos hc] at hr
  repeat refine VW.seq ?_
  refine VW.regl hT fun K hK => ?_
  simp only [wq, simprocAttr]
  refine vcall_of (within_vc x 0 65535) ?_
  simp only [wq, simprocAttr]
  refine vbr (fun h => ?_) (fun h => ?_) <;> simp only [wq, simprocAttr]
  ·have h : inB x 0 65535 = true := h
   refine vcall_of (isWord_vc y) ?_
   simp only [wq, simprocAttr]
   refine hK _ ?_
   clear hK K
   try refine vthen_n ?_
   refine VW.ret ⟨.inl rfl, _, rfl, ?_⟩
   rw [← hr, h, Bool.true_and]
  ·have h : inB x 0 65535 = false := h
   refine hK _ ?_
   clear hK K
   try refine vthen_n ?_
   refine VW.ret ⟨.inl rfl, _, rfl, ?_⟩
   rw [← hr, h, Bool.false_and]
 have hc : ¬ kd = 1 := fun e => by rw [e] at hc; cases hc
 rw [if_neg hc] at hr
 repeat refine VW.seq ?_
 refine VW.regl hT fun K hK => ?_
 simp only [wq, simprocAttr]
 refine hK _ ?_
 clear hK K
 try refine vthen_n ?_
 repeat refine VW.seq ?_
 refine VW.cond rfl (fun hc => ?_) (fun hc => ?_)
 ·have hc : kd = 2 := eq_of_beq hc
  rw [if_pos hc] at hr
  repeat refine VW.seq ?_
  refine VW.regl hT fun K hK => ?_
  simp only [wq, simprocAttr]
  refine vcall_of (within_vc x 0 65535) ?_
  simp only [wq, simprocAttr]
  refine vbr (fun h => ?_) (fun h => ?_) <;> simp only [wq, simprocAttr]
  ·have h : inB x 0 65535 = true := h
   refine hK _ ?_
   clear hK K
   try refine vthen_n ?_
   refine VW.ret ⟨.inl rfl, _, rfl, ?_⟩
   rw [← hr, h, Bool.true_and]
  ·have h : inB x 0 65535 = false := h
   refine hK _ ?_
   clear hK K
   try refine vthen_n ?_
   refine VW.ret ⟨.inl rfl, _, rfl, ?_⟩
   rw [← hr, h, Bool.false_and]
 have hc : ¬ kd = 2 := fun e => by rw [e] at hc; cases hc
 rw [if_neg hc] at hr
 repeat refine VW.seq ?_
 refine VW.regl hT fun K hK => ?_
 simp only [wq, simprocAttr]
 refine hK _ ?_
 clear hK K
 try refine vthen_n ?_
 repeat refine VW.seq ?_
 refine VW.cond rfl (fun hc => ?_) (fun hc => ?_)
 ·have e3 : kd = 3 := eq_of_beq hc
  refine VW.skip (vthen_n ?_)
  repeat refine VW.seq ?_
  refine VW.cond rfl (fun hc => ?_) (fun hc => ?_)
  ·skip
   rw [if_pos (by omega)] at hr
   repeat refine VW.seq ?_
   refine VW.regl hT fun K hK => ?_
   simp only [wq, simprocAttr]
   refine vbr (fun h => ?_) (fun h => ?_) <;> simp only [wq, simprocAttr]
   ·have h : (x == 0) = true := h
    refine hK _ ?_
    clear hK K
    try refine vthen_n ?_
    refine VW.ret ⟨.inl rfl, _, rfl, ?_⟩
    rw [← hr, h, Bool.true_and]
   ·have h : (x == 0) = false := h
    refine hK _ ?_
    clear hK K
    try refine vthen_n ?_
    refine VW.ret ⟨.inl rfl, _, rfl, ?_⟩
    rw [← hr, h, Bool.false_and]
  exact absurd hc (by rw [e3]; decide)
 have h3 : ¬ kd = 3 := fun e => by rw [e] at hc; cases hc
 repeat refine VW.seq ?_
 refine VW.regl hT fun K hK => ?_
 simp only [wq, simprocAttr]
 refine hK _ ?_
 clear hK K
 try refine vthen_n ?_
 repeat refine VW.seq ?_
 refine VW.cond rfl (fun hc => ?_) (fun hc => ?_)
 ·have hc : kd = 4 := eq_of_beq hc
  rw [if_pos (by omega)] at hr
  repeat refine VW.seq ?_
  refine VW.regl hT fun K hK => ?_
  simp only [wq, simprocAttr]
  refine vbr (fun h => ?_) (fun h => ?_) <;> simp only [wq, simprocAttr]
  ·have h : (x == 0) = true := h
   refine hK _ ?_
   clear hK K
   try refine vthen_n ?_
   refine VW.ret ⟨.inl rfl, _, rfl, ?_⟩
   rw [← hr, h, Bool.true_and]
  ·have h : (x == 0) = false := h
   refine hK _ ?_
   clear hK K
   try refine vthen_n ?_
   refine VW.ret ⟨.inl rfl, _, rfl, ?_⟩
   rw [← hr, h, Bool.false_and]
 have h4 : ¬ kd = 4 := fun e => by rw [e] at hc; cases hc
 rw [if_neg (by omega)] at hr
 refine VW.skip ?_
 show vthen _ _ _ .normal _
 refine vthen_n ?_
 repeat refine VW.seq ?_
 refine VW.regl hT fun K hK => ?_
 simp only [wq, simprocAttr]
 refine hK _ ?_
 clear hK K
 try refine vthen_n ?_
 refine VW.ret ⟨.inl rfl, _, rfl, ?_⟩
 rw [← hr]
set_option maxRecDepth 20000 in
set_option maxHeartbeats 1000000 in
theorem specActOk_vc (a : Ac) : VC Tryd.prog 20 [.v true sAct a] (· = .v false .bool (actOk a)) := by
 refine VC.of_body hT Tryd.func20 rfl (by kernel_rfl) [(.tmp 2, false, .bool)] (by kernel_rfl) ?_
 generalize hr : actOk a = r
 obtain ⟨kd, nd, x, y⟩ := a
 have hr : (inB nd 0 11 && (if kd = 1 then inB x 0 65535 && inB y 0 65535 else if kd = 2 then inB x 0 65535 && y == 0 else if kd = 3 ∨ kd = 4 then x == 0 && y == 0 else false)) = r := hr
 show VW _ _ ([.v true sAct (kd, nd, x, y), D, D, D, D, D, D, D, D, D, D, D, D, D, D, D, D, D, D, D, D, D, D, D, D, D, D, D, D, D, D, D, D, D, D, D, D, D, D, D]) _
 repeat refine VW.seq ?_
 refine VW.regl hT fun K hK => ?_
 simp only [wq, simprocAttr]
 refine hK _ ?_
 clear hK K
 try refine vthen_n ?_
 repeat refine VW.seq ?_
 refine VW.regl hT fun K hK => ?_
 simp only [wq, simprocAttr]
 refine vcall_of (in_vc nd 0 11) ?_
 simp only [wq, simprocAttr]
 refine hK _ ?_
 clear hK K
 try refine vthen_n ?_
 repeat refine VW.seq ?_
 refine VW.cond rfl (fun hc => ?_) (fun hc => ?_)
 ·have hc : inB nd 0 11 = false := (Bool.not_eq_true' _).mp hc
  repeat refine VW.seq ?_
  refine VW.regl hT fun K hK => ?_
  simp only [wq, simprocAttr]
  refine hK _ ?_
  clear hK K
  try refine vthen_n ?_
  refine VW.ret ⟨.inl rfl, _, rfl, ?_⟩
  rw [← hr, hc, Bool.false_and]
 have hc : inB nd 0 11 = true := by
  have := hc
  rwa [Bool.not_eq_false'] at this
 rw [hc, Bool.true_and] at hr
 refine VW.skip (vthen_n ?_)
 repeat refine VW.seq ?_
 refine VW.regl hT fun K hK => ?_
 simp only [wq, simprocAttr]
 refine hK _ ?_
 clear hK K
 try refine vthen_n ?_
 repeat refine VW.seq ?_
 refine VW.block ?_
 repeat refine VW.seq ?_
 refine VW.regl hT fun K hK => ?_
 simp only [wq, simprocAttr]
 refine hK _ ?_
 clear hK K
 try refine vthen_n ?_
 repeat refine VW.seq ?_
 refine VW.cond rfl (fun hc => ?_) (fun hc => ?_)
 ·have hc : kd = 1 := eq_of_beq hc
  rw [if_pos hc] at hr
  repeat refine VW.seq ?_
  refine VW.regl hT fun K hK => ?_
  simp only [wq, simprocAttr]
  refine vcall_of (in_vc x 0 65535) ?_
  simp only [wq, simprocAttr]
  refine vbr (fun h => ?_) (fun h => ?_) <;> simp only [wq, simprocAttr]
  ·have h : inB x 0 65535 = true := h
   refine vcall_of (in_vc y 0 65535) ?_
   simp only [wq, simprocAttr]
   refine hK _ ?_
   clear hK K
   try refine vthen_n ?_
   refine VW.ret ⟨.inl rfl, _, rfl, ?_⟩
   rw [← hr, h, Bool.true_and]
  ·have h : inB x 0 65535 = false := h
   refine hK _ ?_
   clear hK K
   try refine vthen_n ?_
   refine VW.ret ⟨.inl rfl, _, rfl, ?_⟩
   rw [← hr, h, Bool.false_and]
 have hc : ¬ kd = 1 := fun e => by rw [e] at hc; cases hc
 rw [if_neg hc] at hr
 repeat refine VW.seq ?_
 refine VW.regl hT fun K hK => ?_
 simp only [wq, simprocAttr]
 refine hK _ ?_
 clear hK K
 try refine vthen_n ?_
 repeat refine VW.seq ?_
 refine VW.cond rfl (fun hc => ?_) (fun hc => ?_)
 ·have hc : kd = 2 := eq_of_beq hc
  rw [if_pos hc] at hr
  repeat refine VW.seq ?_
  refine VW.regl hT fun K hK => ?_
  simp only [wq, simprocAttr]
  refine vcall_of (in_vc x 0 65535) ?_
  simp only [wq, simprocAttr]
  refine vbr (fun h => ?_) (fun h => ?_) <;> simp only [wq, simprocAttr]
  ·have h : inB x 0 65535 = true := h
   refine hK _ ?_
   clear hK K
   try refine vthen_n ?_
   refine VW.ret ⟨.inl rfl, _, rfl, ?_⟩
   rw [← hr, h, Bool.true_and]
  ·have h : inB x 0 65535 = false := h
   refine hK _ ?_
   clear hK K
   try refine vthen_n ?_
   refine VW.ret ⟨.inl rfl, _, rfl, ?_⟩
   rw [← hr, h, Bool.false_and]
 have hc : ¬ kd = 2 := fun e => by rw [e] at hc; cases hc
 rw [if_neg hc] at hr
 repeat refine VW.seq ?_
 refine VW.regl hT fun K hK => ?_
 simp only [wq, simprocAttr]
 refine hK _ ?_
 clear hK K
 try refine vthen_n ?_
 repeat refine VW.seq ?_
 refine VW.cond rfl (fun hc => ?_) (fun hc => ?_)
 ·have e3 : kd = 3 := eq_of_beq hc
  refine VW.skip (vthen_n ?_)
  repeat refine VW.seq ?_
  refine VW.cond rfl (fun hc => ?_) (fun hc => ?_)
  ·skip
   rw [if_pos (by omega)] at hr
   repeat refine VW.seq ?_
   refine VW.regl hT fun K hK => ?_
   simp only [wq, simprocAttr]
   refine vbr (fun h => ?_) (fun h => ?_) <;> simp only [wq, simprocAttr]
   ·have h : (x == 0) = true := h
    refine hK _ ?_
    clear hK K
    try refine vthen_n ?_
    refine VW.ret ⟨.inl rfl, _, rfl, ?_⟩
    rw [← hr, h, Bool.true_and]
   ·have h : (x == 0) = false := h
    refine hK _ ?_
    clear hK K
    try refine vthen_n ?_
    refine VW.ret ⟨.inl rfl, _, rfl, ?_⟩
    rw [← hr, h, Bool.false_and]
  exact absurd hc (by rw [e3]; decide)
 have h3 : ¬ kd = 3 := fun e => by rw [e] at hc; cases hc
 repeat refine VW.seq ?_
 refine VW.regl hT fun K hK => ?_
 simp only [wq, simprocAttr]
 refine hK _ ?_
 clear hK K
 try refine vthen_n ?_
 repeat refine VW.seq ?_
 refine VW.cond rfl (fun hc => ?_) (fun hc => ?_)
 ·have hc : kd = 4 := eq_of_beq hc
  rw [if_pos (by omega)] at hr
  repeat refine VW.seq ?_
  refine VW.regl hT fun K hK => ?_
  simp only [wq, simprocAttr]
  refine vbr (fun h => ?_) (fun h => ?_) <;> simp only [wq, simprocAttr]
  ·have h : (x == 0) = true := h
   refine hK _ ?_
   clear hK K
   try refine vthen_n ?_
   refine VW.ret ⟨.inl rfl, _, rfl, ?_⟩
   rw [← hr, h, Bool.true_and]
  ·have h : (x == 0) = false := h
   refine hK _ ?_
   clear hK K
   try refine vthen_n ?_
   refine VW.ret ⟨.inl rfl, _, rfl, ?_⟩
   rw [← hr, h, Bool.false_and]
 have h4 : ¬ kd = 4 := fun e => by rw [e] at hc; cases hc
 rw [if_neg (by omega)] at hr
 refine VW.skip ?_
 show vthen _ _ _ .normal _
 refine vthen_n ?_
 repeat refine VW.seq ?_
 refine VW.regl hT fun K hK => ?_
 simp only [wq, simprocAttr]
 refine hK _ ?_
 clear hK K
 try refine vthen_n ?_
 refine VW.ret ⟨.inl rfl, _, rfl, ?_⟩
 rw [← hr]
end Go.Proofs.YtoeblmcibheldaaDoor.V.W
end
section
namespace Go.Proofs.YtoeblmcibheldaaDoor.V.W
open Go Go.RowKit
end Go.Proofs.YtoeblmcibheldaaDoor.V.W
end
section
namespace Go.Proofs.YtoeblmcibheldaaDoor.V.W
open Go Go.RowKit
end Go.Proofs.YtoeblmcibheldaaDoor.V.W
end
section
namespace Go.Proofs.YtoeblmcibheldaaDoor.V.W
open Go Go.RowKit
end Go.Proofs.YtoeblmcibheldaaDoor.V.W
end
section
namespace Go.Proofs.YtoeblmcibheldaaDoor.V.W
open Go Go.RowKit
structure FabS (x : Fab) : Prop where
 a : x.1.length ≤ 2000000
 b : x.2.1.length ≤ 2000000
 c : x.2.2.1.length ≤ 2000000
 d : x.2.2.2.1.length ≤ 2000000
 e : tot x.2.2.2.1 x.2.2.2.1.length ≤ 2000000
 f : x.2.2.2.2.length ≤ 2000000
end Go.Proofs.YtoeblmcibheldaaDoor.V.W
end
section
namespace Go.Proofs.YtoeblmcibheldaaDoor.V.W
open Go Go.RowKit
end Go.Proofs.YtoeblmcibheldaaDoor.V.W
end
section
namespace Go.Proofs.YtoeblmcibheldaaDoor.V
open Go Go.RowKit
end Go.Proofs.YtoeblmcibheldaaDoor.V
namespace Go.Proofs.YtoeblmcibheldaaDoor.V.W
open Go Go.RowKit
end Go.Proofs.YtoeblmcibheldaaDoor.V.W
end
section
namespace Go.Proofs.YtoeblmcibheldaaDoor.V
open Go Go.RowKit
/-- a row's flag, its header known -/
def Tg (f : Fl) (n : Nat) (v : Value) : Prop := (∃ g c, f = .io g c ∧ v = .slice (some ⟨g, 0, none⟩) n c) ∨ ∃ A, f = .kz A 0 ∧ n = 0 ∧ v = .slice A 0 0
def TgS : (s : Sh) → Fl → s.ty → List Value → Prop
 | .pr a b, f, x, l => ∃ f1 f2 l1 l2, f = .pr f1 f2 ∧ l = l1 ++ l2 ∧ TgS a f1 x.1 l1 ∧ TgS b f2 x.2 l2
 | .sl _ s, f, xs, l => ∃ v, l = [v] ∧ Tg f (List.length (α := s.ty) xs) v
 | s, f, x, l => encI s f x = some l
theorem TgS.enc : ∀ {s : Sh} {f : Fl} {x : s.ty} {l : List Value}, TgS s f x l → encI s f x = some l
 | .unit, _, _, _, h => h
 | .int _, _, _, _, h => h
 | .bool, _, _, _, h => h
 | .str, _, _, _, h => h
 | .pr a b, f, x, l, ⟨f1, f2, l1, l2, e1, e2, h1, h2⟩ => by
  subst e1; subst e2
  simp only [encI, Fl.l, Fl.r, h1.enc, h2.enc]
 | .sl e s, f, xs, l, ⟨v, e1, h⟩ => by
  subst e1
  rcases h with ⟨g, c, rfl, rfl⟩ | ⟨A, rfl, h0, rfl⟩
  ·rfl
  ·show some [Value.slice A (List.length (α := s.ty) xs) 0] = _
   rw [h0]
section
variable {P : Program} {T : List (Nat × TI)}
end
end Go.Proofs.YtoeblmcibheldaaDoor.V
end
section
namespace Go.Proofs.YtoeblmcibheldaaDoor.V.W
open Go Go.RowKit
end Go.Proofs.YtoeblmcibheldaaDoor.V.W
end
section
namespace Go.Proofs.YtoeblmcibheldaaDoor.V.W
open Go Go.RowKit
end Go.Proofs.YtoeblmcibheldaaDoor.V.W
end
section
namespace Go.Proofs.YtoeblmcibheldaaDoor.V.W
open Go Go.RowKit
/-- two fabrics of the same sizes -/
structure FabSh (x y : Fab) : Prop where
 a : y.1.length = x.1.length
 b : y.2.1.length = x.2.1.length
 c : y.2.2.1.length = x.2.2.1.length
 d : y.2.2.2.1.length = x.2.2.2.1.length
 e : ∀ k, (y.2.2.2.1.getD k []).length = (x.2.2.2.1.getD k []).length
 f : y.2.2.2.2.length = x.2.2.2.2.length
theorem FabSh.refl (x : Fab) : FabSh x x := ⟨rfl, rfl, rfl, rfl, fun _ => rfl, rfl⟩
theorem FabSh.trans {x y z : Fab} (h : FabSh x y) (k : FabSh y z) : FabSh x z := ⟨k.a.trans h.a, k.b.trans h.b, k.c.trans h.c, k.d.trans h.d, fun i => (k.e i).trans (h.e i), k.f.trans h.f⟩
end Go.Proofs.YtoeblmcibheldaaDoor.V.W
end
section
namespace Go.Proofs.YtoeblmcibheldaaDoor.V.W
open Go Go.RowKit
abbrev zA : Ac := (0, 0, 0, 0)
end Go.Proofs.YtoeblmcibheldaaDoor.V.W
end
section
end
section
namespace Go.Proofs.YtoeblmcibheldaaDoor.V.W
open Go Go.RowKit
theorem gl_words : (0, fun cs => cs = (#[.string ⟨#[119, 114, 105, 116, 101]⟩, .string ⟨#[114, 101, 97, 100]⟩, .string ⟨#[99, 117, 116]⟩, .string ⟨#[111, 112, 101, 110]⟩] : Array Value)) ∈ gls := .head _
def word (k : Int) : List UInt8 := if k = 1 then [119, 114, 105, 116, 101] else if k = 2 then [114, 101, 97, 100] else if k = 3 then [99, 117, 116] else [111, 112, 101, 110]
def actText (a : Ac) : List UInt8 := word a.1 ++ 32 :: Lib.itoa a.2.1 ++ (if a.1 ≤ 2 then 32 :: Lib.itoa a.2.2.1 else []) ++ (if a.1 = 1 then 32 :: Lib.itoa a.2.2.2 else [])
def fmtAct (a : Ac) : ByteArray × Bool := if actOk a = true then (bs (actText a), true) else (bs [], false)
abbrev rTB (p : ByteArray × Bool) : PV := .root (.tup [false, false]) (.pr .str .bool) (.pr .fz .fz) p
theorem actOk_iff {k n x y : Int} (h : actOk (k, n, x, y) = true) : (0 ≤ n ∧ n ≤ 11) ∧ (0 ≤ x ∧ x ≤ 65535) ∧ (0 ≤ y ∧ y ≤ 65535) ∧ (k = 1 ∨ k = 2 ∨ k = 3 ∨ k = 4) := by
 simp only [actOk, Bool.and_eq_true] at h
 obtain ⟨h1, h2⟩ := h
 refine ⟨by have := inB_iff.1 h1; omega, ?_⟩
 split at h2
 ·simp only [Bool.and_eq_true] at h2
  have a := inB_iff.1 h2.1
  have b := inB_iff.1 h2.2
  omega
 split at h2
 ·simp only [Bool.and_eq_true, beq_iff_eq] at h2
  have a := inB_iff.1 h2.1
  omega
 split at h2
 ·simp only [Bool.and_eq_true, beq_iff_eq] at h2
  omega
 ·cases h2
theorem bs32 : (⟨#[32]⟩ : ByteArray) = bs [32] := rfl
theorem word_len (k : Int) : (word k).length ≤ 5 := by
 unfold word
 split
 ·decide
 split
 ·decide
 split <;> decide
set_option maxRecDepth 20000 in
set_option maxHeartbeats 2000000 in
theorem fmtAct_vc (a : Ac) : VC Tryd.prog 9 [.v true sAct a] (· = rTB (fmtAct a)) := by
 refine VC.of_body hT Tryd.func9 rfl (by kernel_rfl) [(.tmp 2, false, .str), (.tmp 3, false, .bool)] (by kernel_rfl) ?_
 obtain ⟨kd, nd, x, y⟩ := a
 show VW _ _ ([.v true sAct (kd, nd, x, y), D, D, D, D, D, D, D, D, D, D, D, D, D, D, D, D, D, D, D, D, D, D, D, D, D, D, D, D, D, D, D, D, D, D, D, D, D, D, D, D, D]) _
 repeat refine VW.seq ?_
 refine VW.regl hT fun K hK => ?_
 simp only [wq, simprocAttr]
 refine hK _ ?_
 clear hK K
 try refine vthen_n ?_
 repeat refine VW.seq ?_
 refine VW.regl hT fun K hK => ?_
 simp only [wq, simprocAttr]
 refine vcall_of (actOk_vc _) ?_
 simp only [wq, simprocAttr]
 refine hK _ ?_
 clear hK K
 try refine vthen_n ?_
 repeat refine VW.seq ?_
 refine VW.cond rfl (fun hc => ?_) (fun hc => ?_)
 ·repeat refine VW.seq ?_
  refine VW.regl hT fun K hK => ?_
  simp only [wq, simprocAttr]
  refine hK _ ?_
  clear hK K
  try refine vthen_n ?_
  refine VW.ret ⟨.inl rfl, _, rfl, ?_⟩
  have hc : actOk (kd, nd, x, y) = false := (Bool.not_eq_true' _).mp hc
  rw [fmtAct, if_neg (by rw [hc]; decide)]
  rfl
 have hok : actOk (kd, nd, x, y) = true := (Bool.not_eq_false' _).mp hc
 refine VW.skip (vthen_n ?_)
 obtain ⟨hn, hx, hy, hk⟩ := actOk_iff hok
 have hw := word_len kd
 have hw0 : IntKind.i64.wrap (kd - 1) = kd - 1 := wrap64 (by omega) (by omega)
 have hi : 0 ≤ kd - 1 ∧ kd - 1 < ((4 : Nat) : Int) := by omega
 have hg : (#[.string ⟨#[119, 114, 105, 116, 101]⟩, .string ⟨#[114, 101, 97, 100]⟩, .string ⟨#[99, 117, 116]⟩, .string ⟨#[111, 112, 101, 110]⟩] : Array Value)[(kd - 1).toNat]? = some (.string (bs (word kd))) := by
  rcases hk with rfl | rfl | rfl | rfl <;> rfl
 have li := itoa_len (n := nd) (by omega) (by omega)
 rw [bs_size] at li
 have e5 : decide ((bs (word kd)).size + (⟨#[32]⟩ : ByteArray).size ≤ 9223372036854775807) = true := decide_eq_true (by rw [bs_size]; show _ + 1 ≤ _; omega)
 have e9 : decide ((bs (word kd) ++ (⟨#[32]⟩ : ByteArray)).size + (bs (Lib.itoa nd)).size ≤ 9223372036854775807) = true := decide_eq_true (by rw [show (⟨#[32]⟩ : ByteArray) = bs [32] from rfl, bs_app, bs_size, bs_size, List.length_append]; show _ + 1 + _ ≤ _; omega)
 repeat refine VW.seq ?_
 refine VW.any hT hm fun K hK W hW => ?_
 apply cutl; intro tK
 apply cutl; intro t2047
 apply cutl; intro t1023
 apply cutl; intro t511
 apply cutl; intro t479
 apply cutl; intro t255
 apply cutl; intro t463
 apply cutl; intro t223
 apply cutl; intro t127
 apply cutl; intro t455
 apply cutl; intro t207
 apply cutl; intro t95
 apply cutl; intro t451
 apply cutl; intro t199
 apply cutl; intro t79
 apply cutl; intro t449
 apply cutl; intro t195
 apply cutl; intro t71
 apply cutl; intro t193
 apply cutl; intro t67
 ·refine hW.takeF 0 0 1 _ (by kernel_rfl) ?_
  simp only [wy, wq, simprocAttr]
  refine hW.takeF 1 6 65 _ (by kernel_rfl) ?_
  simp only [wy, wq, simprocAttr]
  refine hW.all 65 [(1, 67), (7, 193)] _ (by kernel_rfl) (by simp) ?_
  simp only [wy, wq, simprocAttr]
  exact ⟨t67.h, t193.h⟩
 ·refine hW.all 67 [(2, 71), (7, 195)] _ (by kernel_rfl) (by simp) ?_
  simp only [wy, wq, simprocAttr]
  exact ⟨t71.h, t195.h⟩
 ·refine hW.all 193 [(1, 195), (8, 449)] _ (by kernel_rfl) (by simp) ?_
  simp only [wy, wq, simprocAttr]
  refine ⟨?_, ?_⟩
  ·exact t195.h
  ·refine vcall_of (formatInt_vc nd (by omega) (by omega)) ?_
   simp only [wq, simprocAttr]
   exact t449.h
 ·refine hW.all 71 [(3, 79), (7, 199)] _ (by kernel_rfl) (by simp) ?_
  simp only [wy, wq, simprocAttr]
  refine ⟨?_, ?_⟩
  ·rw [hw0]
   refine vhook_of (does_gidx (e := 9) rfl (by kernel_rfl) (by kernel_rfl) gl_words rfl hi hg rfl) ?_
   simp only [wq, simprocAttr]
   exact t79.h
  ·exact t199.h
 ·refine hW.all 195 [(2, 199), (8, 451)] _ (by kernel_rfl) (by simp) ?_
  simp only [wy, wq, simprocAttr]
  refine ⟨?_, ?_⟩
  ·exact t199.h
  ·refine vcall_of (formatInt_vc nd (by omega) (by omega)) ?_
   simp only [wq, simprocAttr]
   exact t451.h
 ·refine hW.all 449 [(1, 451)] _ (by kernel_rfl) (by simp) ?_
  simp only [wy, wq, simprocAttr]
  exact t451.h
 ·refine hW.all 79 [(4, 95), (7, 207)] _ (by kernel_rfl) (by simp) ?_
  simp only [wy, wq, simprocAttr]
  exact ⟨t95.h, t207.h⟩
 ·refine hW.all 199 [(3, 207), (8, 455)] _ (by kernel_rfl) (by simp) ?_
  simp only [wy, wq, simprocAttr]
  refine ⟨?_, ?_⟩
  ·rw [hw0]
   refine vhook_of (does_gidx (e := 9) rfl (by kernel_rfl) (by kernel_rfl) gl_words rfl hi hg rfl) ?_
   simp only [wq, simprocAttr]
   exact t207.h
  ·refine vcall_of (formatInt_vc nd (by omega) (by omega)) ?_
   simp only [wq, simprocAttr]
   exact t455.h
 ·refine hW.all 451 [(2, 455)] _ (by kernel_rfl) (by simp) ?_
  simp only [wy, wq, simprocAttr]
  exact t455.h
 ·refine hW.all 95 [(5, 127), (7, 223)] _ (by kernel_rfl) (by simp) ?_
  simp only [wy, wq, simprocAttr]
  exact ⟨⟨e5, t127.h⟩, t223.h⟩
 ·refine hW.all 207 [(4, 223), (8, 463)] _ (by kernel_rfl) (by simp) ?_
  simp only [wy, wq, simprocAttr]
  refine ⟨?_, ?_⟩
  ·exact t223.h
  ·refine vcall_of (formatInt_vc nd (by omega) (by omega)) ?_
   simp only [wq, simprocAttr]
   exact t463.h
 ·refine hW.all 455 [(3, 463)] _ (by kernel_rfl) (by simp) ?_
  simp only [wy, wq, simprocAttr]
  skip
  rw [hw0]
  refine vhook_of (does_gidx (e := 9) rfl (by kernel_rfl) (by kernel_rfl) gl_words rfl hi hg rfl) ?_
  simp only [wq, simprocAttr]
  exact t463.h
 ·refine hW.all 127 [(7, 255)] _ (by kernel_rfl) (by simp) ?_
  simp only [wy, wq, simprocAttr]
  exact t255.h
 ·refine hW.all 223 [(5, 255), (8, 479)] _ (by kernel_rfl) (by simp) ?_
  simp only [wy, wq, simprocAttr]
  refine ⟨?_, ?_⟩
  ·refine ⟨e5, ?_⟩
   exact t255.h
  ·refine vcall_of (formatInt_vc nd (by omega) (by omega)) ?_
   simp only [wq, simprocAttr]
   exact t479.h
 ·refine hW.all 463 [(4, 479)] _ (by kernel_rfl) (by simp) ?_
  simp only [wy, wq, simprocAttr]
  exact t479.h
 ·refine hW.all 255 [(8, 511)] _ (by kernel_rfl) (by simp) ?_
  simp only [wy, wq, simprocAttr]
  skip
  refine vcall_of (formatInt_vc nd (by omega) (by omega)) ?_
  simp only [wq, simprocAttr]
  exact t511.h
 ·refine hW.all 479 [(5, 511)] _ (by kernel_rfl) (by simp) ?_
  simp only [wy, wq, simprocAttr]
  exact ⟨e5, t511.h⟩
 ·refine hW.all 511 [(9, 1023)] _ (by kernel_rfl) (by simp) ?_
  simp only [wy, wq, simprocAttr]
  exact ⟨e9, t1023.h⟩
 ·refine hW.all 1023 [(10, 2047)] _ (by kernel_rfl) (by simp) ?_
  simp only [wy, wq, simprocAttr]
  exact t2047.h
 ·refine hW.done 2047 _ (by kernel_rfl) ?_
  exact tK.h
 refine hK _ ?_
 clear hW W hK K
 refine vthen_n ?_
 refine VW.weak (weak_norm [(1, none), (4, none)] _) ?_
 simp only [wn, wq, simprocAttr]
 rw [show bs (word kd) ++ (⟨#[32]⟩ : ByteArray) ++ bs (Lib.itoa nd) = bs (word kd ++ 32 :: Lib.itoa nd) from by rw [show (⟨#[32]⟩ : ByteArray) = bs [32] from rfl, bs_app, bs_app, List.append_assoc]; rfl]
 have hfin : fmtAct (kd, nd, x, y) = (bs (actText (kd, nd, x, y)), true) := if_pos hok
 rw [hfin]
 clear hfin hok hc hw0 hi hg e5 e9
 unfold actText
 have lx := itoa_len (n := x) (by omega) (by omega)
 have ly := itoa_len (n := y) (by omega) (by omega)
 rw [bs_size] at lx ly
 rcases hk with rfl | rfl | rfl | rfl
 ·repeat refine VW.seq ?_
  refine VW.regl hT fun K hK => ?_
  simp only [wq, simprocAttr]
  refine hK _ ?_
  clear hK K
  try refine vthen_n ?_
  repeat refine VW.seq ?_
  refine VW.cond rfl (fun hc => ?_) (fun hc => by cases hc)
  repeat refine VW.seq ?_
  refine VW.regl hT fun K hK => ?_
  simp only [wq, simprocAttr]
  refine vcall_of (formatInt_vc x (by omega) (by omega)) ?_
  simp only [wq, simprocAttr]
  refine ⟨decide_eq_true (by simp only [bs32, bs_app, bs_size, List.length_append, List.length_cons, List.length_nil]; omega), decide_eq_true (by simp only [bs32, bs_app, bs_size, List.length_append, List.length_cons, List.length_nil]; omega), ?_⟩
  refine hK _ ?_
  clear hK K
  try refine vthen_n ?_
  repeat refine VW.seq ?_
  refine VW.regl hT fun K hK => ?_
  simp only [wq, simprocAttr]
  refine hK _ ?_
  clear hK K
  try refine vthen_n ?_
  repeat refine VW.seq ?_
  refine VW.cond rfl (fun hc => ?_) (fun hc => by cases hc)
  repeat refine VW.seq ?_
  refine VW.regl hT fun K hK => ?_
  simp only [wq, simprocAttr]
  refine vcall_of (formatInt_vc y (by omega) (by omega)) ?_
  simp only [wq, simprocAttr]
  refine ⟨decide_eq_true (by simp only [bs32, bs_app, bs_size, List.length_append, List.length_cons, List.length_nil]; omega), decide_eq_true (by simp only [bs32, bs_app, bs_size, List.length_append, List.length_cons, List.length_nil]; omega), ?_⟩
  refine hK _ ?_
  clear hK K
  try refine vthen_n ?_
  repeat refine VW.seq ?_
  refine VW.regl hT fun K hK => ?_
  simp only [wq, simprocAttr]
  refine hK _ ?_
  clear hK K
  try refine vthen_n ?_
  refine VW.ret ⟨.inl rfl, _, rfl, ?_⟩
  simp [bs32, bs_app]
 ·repeat refine VW.seq ?_
  refine VW.regl hT fun K hK => ?_
  simp only [wq, simprocAttr]
  refine hK _ ?_
  clear hK K
  try refine vthen_n ?_
  repeat refine VW.seq ?_
  refine VW.cond rfl (fun hc => ?_) (fun hc => by cases hc)
  repeat refine VW.seq ?_
  refine VW.regl hT fun K hK => ?_
  simp only [wq, simprocAttr]
  refine vcall_of (formatInt_vc x (by omega) (by omega)) ?_
  simp only [wq, simprocAttr]
  refine ⟨decide_eq_true (by simp only [bs32, bs_app, bs_size, List.length_append, List.length_cons, List.length_nil]; omega), decide_eq_true (by simp only [bs32, bs_app, bs_size, List.length_append, List.length_cons, List.length_nil]; omega), ?_⟩
  refine hK _ ?_
  clear hK K
  try refine vthen_n ?_
  repeat refine VW.seq ?_
  refine VW.regl hT fun K hK => ?_
  simp only [wq, simprocAttr]
  refine hK _ ?_
  clear hK K
  try refine vthen_n ?_
  repeat refine VW.seq ?_
  refine VW.cond rfl (fun hc => by cases hc) (fun hc => ?_)
  refine VW.skip (vthen_n ?_)
  repeat refine VW.seq ?_
  refine VW.regl hT fun K hK => ?_
  simp only [wq, simprocAttr]
  refine hK _ ?_
  clear hK K
  try refine vthen_n ?_
  refine VW.ret ⟨.inl rfl, _, rfl, ?_⟩
  simp [bs32, bs_app]
 ·repeat refine VW.seq ?_
  refine VW.regl hT fun K hK => ?_
  simp only [wq, simprocAttr]
  refine hK _ ?_
  clear hK K
  try refine vthen_n ?_
  repeat refine VW.seq ?_
  refine VW.cond rfl (fun hc => by cases hc) (fun hc => ?_)
  refine VW.skip (vthen_n ?_)
  repeat refine VW.seq ?_
  refine VW.regl hT fun K hK => ?_
  simp only [wq, simprocAttr]
  refine hK _ ?_
  clear hK K
  try refine vthen_n ?_
  repeat refine VW.seq ?_
  refine VW.cond rfl (fun hc => by cases hc) (fun hc => ?_)
  refine VW.skip (vthen_n ?_)
  repeat refine VW.seq ?_
  refine VW.regl hT fun K hK => ?_
  simp only [wq, simprocAttr]
  refine hK _ ?_
  clear hK K
  try refine vthen_n ?_
  refine VW.ret ⟨.inl rfl, _, rfl, ?_⟩
  simp [bs32, bs_app]
 ·repeat refine VW.seq ?_
  refine VW.regl hT fun K hK => ?_
  simp only [wq, simprocAttr]
  refine hK _ ?_
  clear hK K
  try refine vthen_n ?_
  repeat refine VW.seq ?_
  refine VW.cond rfl (fun hc => by cases hc) (fun hc => ?_)
  refine VW.skip (vthen_n ?_)
  repeat refine VW.seq ?_
  refine VW.regl hT fun K hK => ?_
  simp only [wq, simprocAttr]
  refine hK _ ?_
  clear hK K
  try refine vthen_n ?_
  repeat refine VW.seq ?_
  refine VW.cond rfl (fun hc => by cases hc) (fun hc => ?_)
  refine VW.skip (vthen_n ?_)
  repeat refine VW.seq ?_
  refine VW.regl hT fun K hK => ?_
  simp only [wq, simprocAttr]
  refine hK _ ?_
  clear hK K
  try refine vthen_n ?_
  refine VW.ret ⟨.inl rfl, _, rfl, ?_⟩
  simp [bs32, bs_app]
end Go.Proofs.YtoeblmcibheldaaDoor.V.W
end
section
namespace Go.Proofs.YtoeblmcibheldaaDoor.V.W
open Go Go.RowKit Go.Proofs.YtoeblmcibheldaaDoor.V
def actWds : List ByteArray := [⟨#[119, 114, 105, 116, 101]⟩, ⟨#[114, 101, 97, 100]⟩, ⟨#[99, 117, 116]⟩, ⟨#[111, 112, 101, 110]⟩]
theorem gl_wds : (0, fun cs => cs = (actWds.map Value.string).toArray) ∈ gls := .head _
/-- the number of field j + 1 -/
def numOf (F : List (List UInt8)) (j : Nat) : Int := if j + 1 < F.length then (pu (F.getD (j + 1) [])).1 else 0
def kindOf (F : List (List UInt8)) : Int := 1 + Lib.idxOfS actWds (bs (F.getD 0 []))
def actOf (F : List (List UInt8)) : Ac := (kindOf F, numOf F 0, numOf F 1, numOf F 2)
def joinF (F : List (List UInt8)) : List UInt8 := Lib.join F [32]
def paOk (F : List (List UInt8)) : Bool := actOk (actOf F) && decide (actText (actOf F) = joinF F)
def parseF (l : List UInt8) : Ac × Bool := if (splitOk l && (inB ((Lib.fields l).length : Int) 2 4 && paOk (Lib.fields l))) = true then (actOf (Lib.fields l), true) else (zA, false)
abbrev rAB (p : Ac × Bool) : PV := .root (.tup [true, false]) (.pr sAct .bool) (.pr .fz .fz) p
abbrev sh3 : Sh := .pr (.int .i64) (.pr (.int .i64) (.int .i64))
def numsTo (F : List (List UInt8)) (i : Nat) : Int × Int × Int := (if 0 < i then numOf F 0 else 0, if 1 < i then numOf F 1 else 0, if 2 < i then numOf F 2 else 0)
theorem getD_bs (F : List (List UInt8)) (i : Nat) : (F.map bs).getD i ByteArray.empty = bs (F.getD i []) := by
 rw [List.getD_eq_getElem?_getD, List.getD_eq_getElem?_getD, List.getElem?_map]
 cases F[i]? <;> rfl
def f3 : Nat → Fl
 | 0 => .fz
 | 1 => .pr .fz .fz
 | _ => .pr .fz (.pr .fz .fz)
theorem bs_back (l : List UInt8) : (bs l).data.toList = l := by simp [bs]
theorem ns0 {F : List (List UInt8)} (h : 1 < F.length) : ((pu (bs (F.getD 1 [])).data.toList).1, (numsTo F 0).2) = numsTo F 1 := by
 rw [bs_back]
 simp [numsTo, numOf, h]
theorem ns1 {F : List (List UInt8)} (h : 2 < F.length) : ((numsTo F 1).1, (pu (bs (F.getD 2 [])).data.toList).1, (numsTo F 1).2.2) = numsTo F 2 := by
 rw [bs_back]
 simp [numsTo, numOf, h]
theorem ns2 {F : List (List UInt8)} (h : 3 < F.length) : ((numsTo F 2).1, (numsTo F 2).2.1, (pu (bs (F.getD 3 [])).data.toList).1) = numsTo F 3 := by
 rw [bs_back]
 simp [numsTo, numOf, h]
theorem ns_end {F : List (List UInt8)} (h1 : 2 ≤ F.length) (h2 : F.length ≤ 4) : numsTo F (F.length - 1) = (numOf F 0, numOf F 1, numOf F 2) := by
 rcases (show F.length = 2 ∨ F.length = 3 ∨ F.length = 4 by omega) with e | e | e <;> rw [e] <;> simp [numsTo, numOf, e]
theorem idx_eq (x : ByteArray) : Lib.idxOfS actWds x = if actWds.getD 0 ByteArray.empty = x then 0 else if actWds.getD 1 ByteArray.empty = x then 1 else if actWds.getD 2 ByteArray.empty = x then 2 else if actWds.getD 3 ByteArray.empty = x then 3 else -1 := rfl
theorem idx_bound (x : ByteArray) : -1 ≤ Lib.idxOfS actWds x ∧ Lib.idxOfS actWds x ≤ 3 := by
 rw [idx_eq]
 split
 ·omega
 split
 ·omega
 split
 ·omega
 split <;> omega
theorem join_small {F : List (List UInt8)} (h : F.length ≤ 4) (hf : ∀ f ∈ F, f.length ≤ 600) : (Lib.join F [32]).length ≤ 140737488355328 := by
 match F, h, hf with
 | [], _, _ => simp [Lib.join, List.intercalate]
 | [a], _, hf =>
  have := hf a (by simp)
  simp [Lib.join, List.intercalate]
  omega
 | [a, b], _, hf =>
  have := hf a (by simp); have := hf b (by simp)
  simp [Lib.join, List.intercalate]
  omega
 | [a, b, c], _, hf =>
  have := hf a (by simp); have := hf b (by simp); have := hf c (by simp)
  simp [Lib.join, List.intercalate]
  omega
 | [a, b, c, d], _, hf =>
  have := hf a (by simp); have := hf b (by simp); have := hf c (by simp); have := hf d (by simp)
  simp [Lib.join, List.intercalate]
  omega
 | _ :: _ :: _ :: _ :: _ :: r, h, _ => simp at h
set_option maxRecDepth 20000 in
set_option maxHeartbeats 4000000 in
theorem parseAct_vc (s : ByteArray) (hs : s.size ≤ 2000000) : VC Tryd.prog 16 [.v false .str s] (· = rAB (parseF s.data.toList)) := by
 refine VC.of_body hT Tryd.func16 rfl (by kernel_rfl) [(.cell 2 26, true, sAct), (.tmp 3, false, .bool)] (by kernel_rfl) ?_
 show VW _ _ ([.v false .str s, D, D, D, D, D, D, D, D, D, D, D, D, D, D, D, D, D, D, D, D, D, D, D, D, D, D, D, D, D, D, D, D, D, D, D, D, D, D, D, D, D, D, D, D, D, D, D, D, D, D, D, D, D, D, D, D, D, D, D, D, D, D, D, D, D, D, D, D, D, D]) _
 have hsp := (splitFields_vc s hs).fzt rfl
 have hpf : parseF s.data.toList = if (splitOk s.data.toList && (inB ((Lib.fields s.data.toList).length : Int) 2 4 && paOk (Lib.fields s.data.toList))) = true then (actOf (Lib.fields s.data.toList), true) else (zA, false) := rfl
 generalize parseF s.data.toList = R at hpf
 repeat refine VW.seq ?_
 refine VW.regl hT fun K hK => ?_
 simp only [wq, simprocAttr]
 refine hK _ ?_
 clear hK K
 try refine vthen_n ?_
 by_cases hok : splitOk s.data.toList = true
 case neg =>
  rw [show splitF s.data.toList = ([], false) from if_neg hok] at hsp
  rw [if_neg (by rw [Bool.not_eq_true] at hok; rw [hok]; simp)] at hpf
  subst hpf
  repeat refine VW.seq ?_
  refine VW.regl hT fun K hK => ?_
  simp only [wq, simprocAttr]
  refine vcall_of hsp ?_
  simp only [wq, simprocAttr]
  refine hK _ ?_
  clear hK K
  try refine vthen_n ?_
  repeat refine VW.seq ?_
  refine VW.regl hT fun K hK => ?_
  simp only [wq, simprocAttr]
  refine hK _ ?_
  clear hK K
  try refine vthen_n ?_
  repeat refine VW.seq ?_
  refine VW.cond rfl (fun hc => ?_) (fun hc => by cases hc)
  repeat refine VW.seq ?_
  refine VW.regl hT fun K hK => ?_
  simp only [wq, simprocAttr]
  refine hK _ ?_
  clear hK K
  try refine vthen_n ?_
  exact VW.ret ⟨.inl rfl, _, rfl, rfl⟩
 rw [show splitF s.data.toList = ((Lib.fields s.data.toList).map bs, true) from if_pos hok] at hsp
 rw [hok, Bool.true_and] at hpf
 have hfm := fun f (hf : f ∈ Lib.fields s.data.toList) => fields_in hf
 have hsl : s.data.toList.length ≤ 600 := by
  have := hok
  simp only [splitOk, Bool.and_eq_true, decide_eq_true_eq] at this
  exact this.1
 generalize Lib.fields s.data.toList = F at *
 have hfs : ∀ i, (bs (F.getD i [])).size ≤ 2000000 := fun i => by
  rw [bs_size, List.getD_eq_getElem?_getD]
  cases h : F[i]? with
  | none => simp
  | some f =>
   have := hfm f (List.mem_of_getElem? h)
   simp only [Option.getD_some]
   omega
 repeat refine VW.seq ?_
 refine VW.regl hT fun K hK => ?_
 simp only [wq, simprocAttr]
 refine vcall_of hsp ?_
 simp only [wq, simprocAttr]
 refine hK _ ?_
 clear hK K
 try refine vthen_n ?_
 repeat refine VW.seq ?_
 refine VW.regl hT fun K hK => ?_
 simp only [wq, simprocAttr]
 refine vcall_of (within_vc _ 2 4) ?_
 simp only [wq, simprocAttr]
 refine hK _ ?_
 clear hK K
 try refine vthen_n ?_
 repeat refine VW.seq ?_
 refine VW.cond rfl (fun hc => ?_) (fun hc => ?_)
 ·have hc : inB ((F.map bs).length : Int) 2 4 = false := (Bool.not_eq_true' _).mp hc
  rw [List.length_map] at hc
  rw [hc, Bool.false_and, if_neg (by decide)] at hpf
  subst hpf
  repeat refine VW.seq ?_
  refine VW.regl hT fun K hK => ?_
  simp only [wq, simprocAttr]
  refine hK _ ?_
  clear hK K
  try refine vthen_n ?_
  exact VW.ret ⟨.inl rfl, _, rfl, rfl⟩
 have hc : inB ((F.map bs).length : Int) 2 4 = true := (Bool.not_eq_false' _).mp hc
 rw [List.length_map] at hc
 rw [hc, Bool.true_and] at hpf
 have hl := inB_iff.1 hc
 have h24 : 2 ≤ F.length ∧ F.length ≤ 4 := by omega
 refine VW.skip (vthen_n ?_)
 repeat refine VW.seq ?_
 refine VW.regl hT fun K hK => ?_
 simp only [wq, simprocAttr]
 refine hK _ ?_
 clear hK K
 try refine vthen_n ?_
 repeat refine VW.seq ?_
 refine VW.regl hT fun K hK => ?_
 simp only [wq, simprocAttr]
 refine ⟨by simp; omega, ?_⟩
 refine hK _ ?_
 clear hK K
 try refine vthen_n ?_
 rw [List.take_length]
 have hGl : ((F.map bs).drop 1).length = F.length - 1 := by rw [List.length_drop, List.length_map]
 have hGg : ∀ i, ((F.map bs).drop 1).getD i ByteArray.empty = bs (F.getD (i + 1) []) := fun i => by
  rw [← getD_bs, List.getD_eq_getElem?_getD, List.getD_eq_getElem?_getD, List.getElem?_drop, Nat.add_comm]
 generalize (F.map bs).drop 1 = G at *
 repeat refine VW.seq ?_
 refine VW.block ?_
 refine VW.loop (α := Nat) [(2, none), (4, none), (6, none), (28, none), (29, none), (30, none)] (fun i => [D, D, .root (.box 26) sAct .own zA, D, .v false sSt (F.map bs), D, .root (.box 62) sh3 (f3 i) (numsTo F i), D, D, D, D, D, D, D, D, D, D, D, D, D, D, D, D, D, D, D, D, D, .v false sSt G, .v false (.int .i64) (G.length), .v false (.int .i64) (i), D, D, D, D, D, D, D, D, D, D, D, D, D, D, D, D, D, D, D, D, D, D, D, D, D, D, D, D, D, D, D, D, D, D, D, D, D, D, D, D]) (fun i => i ≤ G.length) (fun i => G.length - i) ⟨0, by omega, ?_⟩ fun i hi => ?_
 ·simp only [wn, wq, simprocAttr]
  try rfl
 repeat refine VW.seq ?_
 refine VW.regl hT fun K hK => ?_
 simp only [wq, simprocAttr]
 refine hK _ ?_
 clear hK K
 try refine vthen_n ?_
 repeat refine VW.seq ?_
 refine VW.cond rfl (fun hc => ?_) (fun hc => ?_)
 ·have hlt : i < G.length := by simpa using hc
  refine VW.skip (vthen_n ?_)
  repeat refine VW.seq ?_
  refine VW.block ?_
  repeat refine VW.seq ?_
  refine VW.regl hT fun K hK => ?_
  simp only [wq, simprocAttr]
  refine ⟨decide_eq_true ⟨Int.natCast_nonneg _, by show (i : Int) < (G.length : Int); omega⟩, ?_⟩
  rw [hGg]
  refine hK _ ?_
  clear hK K
  try refine vthen_n ?_
  rcases (show i = 0 ∨ i = 1 ∨ i = 2 by omega) with rfl | rfl | rfl
  ·skip
   repeat refine VW.seq ?_
   refine VW.regl hT fun K hK => ?_
   simp only [wq, simprocAttr]
   refine vcall_of (parseUint_vc _ (hfs _)) ?_
   simp only [wq, simprocAttr]
   refine vhook_of (does_aidx (i := 0) (n := 3) (g := 6) (t0 := 62) (e := 3) (s1 := .int .i64) (of := 0) (k := .i64) rfl (by kernel_rfl) (by kernel_rfl) rfl rfl (by decide) rfl rfl rfl) ?_
   simp only [wq, simprocAttr]
   refine hK _ ?_
   clear hK K
   try refine vthen_n ?_
   show vthen _ _ _ .normal _
   refine vthen_n ?_
   repeat refine VW.seq ?_
   refine VW.regl hT fun K hK => ?_
   simp only [wq, simprocAttr]
   refine hK _ ?_
   clear hK K
   try refine vthen_n ?_
   refine ⟨1, by omega, ?_, by show G.length - 1 < G.length - 0; omega⟩
   simp only [wn, wq, simprocAttr]
   rw [ns0 (F := F) (by omega)]
   rfl
  ·skip
   repeat refine VW.seq ?_
   refine VW.regl hT fun K hK => ?_
   simp only [wq, simprocAttr]
   refine vcall_of (parseUint_vc _ (hfs _)) ?_
   simp only [wq, simprocAttr]
   refine vhook_of (does_aidx (i := 1) (n := 3) (g := 6) (t0 := 62) (e := 3) (s1 := .int .i64) (of := 1) (k := .i64) rfl (by kernel_rfl) (by kernel_rfl) rfl rfl (by decide) rfl rfl rfl) ?_
   simp only [wq, simprocAttr]
   refine hK _ ?_
   clear hK K
   try refine vthen_n ?_
   show vthen _ _ _ .normal _
   refine vthen_n ?_
   repeat refine VW.seq ?_
   refine VW.regl hT fun K hK => ?_
   simp only [wq, simprocAttr]
   refine hK _ ?_
   clear hK K
   try refine vthen_n ?_
   refine ⟨2, by omega, ?_, by show G.length - 2 < G.length - 1; omega⟩
   simp only [wn, wq, simprocAttr]
   rw [ns1 (F := F) (by omega)]
   rfl
  ·skip
   repeat refine VW.seq ?_
   refine VW.regl hT fun K hK => ?_
   simp only [wq, simprocAttr]
   refine vcall_of (parseUint_vc _ (hfs _)) ?_
   simp only [wq, simprocAttr]
   refine vhook_of (does_aidx (i := 2) (n := 3) (g := 6) (t0 := 62) (e := 3) (s1 := .int .i64) (of := 2) (k := .i64) rfl (by kernel_rfl) (by kernel_rfl) rfl rfl (by decide) rfl rfl rfl) ?_
   simp only [wq, simprocAttr]
   refine hK _ ?_
   clear hK K
   try refine vthen_n ?_
   show vthen _ _ _ .normal _
   refine vthen_n ?_
   repeat refine VW.seq ?_
   refine VW.regl hT fun K hK => ?_
   simp only [wq, simprocAttr]
   refine hK _ ?_
   clear hK K
   try refine vthen_n ?_
   refine ⟨3, by omega, ?_, by show G.length - 3 < G.length - 2; omega⟩
   simp only [wn, wq, simprocAttr]
   rw [ns2 (F := F) (by omega)]
   rfl
 ·have hge : i = G.length := by
   have : ¬ (i : Int) < (G.length : Int) := of_decide_eq_false hc
   omega
  subst hge
  refine VW.exit ?_
  show vthen _ _ _ .normal _
  refine vthen_n ?_
  rw [hGl, ns_end h24.1 h24.2]
  have hF3 : f3 (F.length - 1) = .pr .fz .fz ∨ f3 (F.length - 1) = .pr .fz (.pr .fz .fz) := by
   rcases (show F.length = 2 ∨ F.length = 3 ∨ F.length = 4 by omega) with e | e | e <;> rw [e]
   ·exact .inl rfl
   ·exact .inr rfl
   ·exact .inr rfl
  generalize f3 (F.length - 1) = fl at *
  repeat refine VW.seq ?_
  refine VW.mixl hT hm 0 14 (by kernel_rfl) fun K hK => ?_
  simp only [wq, simprocAttr]
  refine ⟨by kernel_rfl, vhookD_of (fun st' hag hd => does_gslice (e := 9) (words := actWds) rfl (by kernel_rfl) (by kernel_rfl) gl_wds rfl (by decide) (by decide) hd) ?_⟩
  simp only [wq, simprocAttr]
  refine ⟨by simp; omega, ?_⟩
  repeat refine ⟨by kernel_rfl, ?_⟩
  refine vcallD_of (sindex_vc actWds _ (by decide)) ?_
  simp only [wq, simprocAttr]
  repeat refine ⟨by kernel_rfl, ?_⟩
  refine (vhookD_of (fun st' hag hd => does_aidx (sh := sh3) (f := fl) (x := (numOf F 0, numOf F 1, numOf F 2)) (i := 0) (n := 3) (g := 6) (t0 := 62) (e := 3) (s1 := .int .i64) (of := 0) (k := .i64) rfl (by kernel_rfl) (by kernel_rfl) (hag 6 (by decide)) rfl (by decide) rfl rfl hd) ?_)
  simp only [wq, simprocAttr]
  repeat refine ⟨by kernel_rfl, ?_⟩
  refine (vhookD_of (fun st' hag hd => does_aidx (sh := sh3) (f := fl) (x := (numOf F 0, numOf F 1, numOf F 2)) (i := 1) (n := 3) (g := 6) (t0 := 62) (e := 3) (s1 := .int .i64) (of := 1) (k := .i64) rfl (by kernel_rfl) (by kernel_rfl) (hag 6 (by decide)) rfl (by decide) rfl rfl hd) ?_)
  simp only [wq, simprocAttr]
  repeat refine ⟨by kernel_rfl, ?_⟩
  refine (vhookD_of (fun st' hag hd => does_aidx (sh := sh3) (f := fl) (x := (numOf F 0, numOf F 1, numOf F 2)) (i := 2) (n := 3) (g := 6) (t0 := 62) (e := 3) (s1 := .int .i64) (of := 2) (k := .i64) rfl (by kernel_rfl) (by kernel_rfl) (hag 6 (by decide)) rfl (by decide) rfl rfl hd) ?_)
  simp only [wq, simprocAttr]
  repeat refine ⟨by kernel_rfl, ?_⟩
  have hib := idx_bound (bs (F.getD 0 []))
  rw [getD_bs, wrap64 (x := 1 + Lib.idxOfS actWds (bs (F.getD 0 []))) (by omega) (by omega)]
  refine hK _ ?_
  clear hK K
  try refine vthen_n ?_
  repeat refine VW.seq ?_
  refine VW.regl hT fun K hK => ?_
  simp only [wq, simprocAttr]
  refine vcall_of (fmtAct_vc (actOf F)) ?_
  by_cases ha : actOk (actOf F) = true
  case neg =>
   rw [show fmtAct (actOf F) = (bs [], false) from if_neg ha]
   rw [if_neg (by rw [paOk]; simp [ha])] at hpf
   subst hpf
   simp only [wq, simprocAttr]
   refine hK _ ?_
   clear hK K
   try refine vthen_n ?_
   repeat refine VW.seq ?_
   refine VW.regl hT fun K hK => ?_
   simp only [wq, simprocAttr]
   refine hK _ ?_
   clear hK K
   try refine vthen_n ?_
   repeat refine VW.seq ?_
   refine VW.cond rfl (fun hc => ?_) (fun hc => by cases hc)
   repeat refine VW.seq ?_
   refine VW.regl hT fun K hK => ?_
   simp only [wq, simprocAttr]
   refine hK _ ?_
   clear hK K
   try refine vthen_n ?_
   exact VW.ret ⟨.inl rfl, _, rfl, rfl⟩
  rw [show fmtAct (actOf F) = (bs (actText (actOf F)), true) from if_pos ha]
  simp only [wq, simprocAttr]
  refine hK _ ?_
  clear hK K
  try refine vthen_n ?_
  have hjm : (F.map bs).map (·.data.toList) = F := by
   rw [List.map_map]
   simp [Function.comp_def, bs_back]
  have hjl : (Lib.join F [32]).length ≤ 140737488355328 := join_small h24.2 fun f hf => by
   have := hfm f hf
   omega
  repeat refine VW.seq ?_
  refine VW.regl hT fun K hK => ?_
  simp only [wq, simprocAttr]
  refine vcall_of (join_vc (F.map bs) ⟨#[32]⟩ (by rw [List.length_map]; omega) (by rw [hjm]; exact hjl)) ?_
  rw [hjm]
  simp only [wq, simprocAttr]
  refine hK _ ?_
  clear hK K
  try refine vthen_n ?_
  repeat refine VW.seq ?_
  refine VW.cond rfl (fun hc => ?_) (fun hc => ?_)
  ·rw [bs_toList', bs_toList'] at hc
   have hne : actText (actOf F) ≠ joinF F := by
    have hc : (!(actText (actOf F) == joinF F)) = true := hc
    simpa using hc
   rw [if_neg (by rw [paOk, ha, decide_eq_false hne]; decide)] at hpf
   subst hpf
   repeat refine VW.seq ?_
   refine VW.regl hT fun K hK => ?_
   simp only [wq, simprocAttr]
   refine hK _ ?_
   clear hK K
   try refine vthen_n ?_
   exact VW.ret ⟨.inl rfl, _, rfl, rfl⟩
  rw [bs_toList', bs_toList'] at hc
  have heq : actText (actOf F) = joinF F := by
   have hc : (!(actText (actOf F) == joinF F)) = false := hc
   simpa using hc
  rw [if_pos (by rw [paOk, ha, decide_eq_true heq]; rfl)] at hpf
  subst hpf
  refine VW.skip (vthen_n ?_)
  repeat refine VW.seq ?_
  refine VW.regl hT fun K hK => ?_
  simp only [wq, simprocAttr]
  refine hK _ ?_
  clear hK K
  try refine vthen_n ?_
  exact VW.ret ⟨.inl rfl, _, rfl, rfl⟩
end Go.Proofs.YtoeblmcibheldaaDoor.V.W
end
section
namespace Go.Proofs.YtoeblmcibheldaaDoor.V.W
open Go Go.RowKit Go.Proofs.YtoeblmcibheldaaDoor.V
theorem ext_bs (s : ByteArray) (b i : Nat) : s.extract b i = bs ((s.data.toList.drop b).take (i - b)) := by
 apply ByteArray.ext
 rw [ByteArray.data_extract]
 simp only [bs]
 apply Array.toList_inj.1
 simp [Array.toList_extract, List.extract_eq_take_drop]
theorem cur_empty {L : List UInt8} {b i : Nat} (h : b < i) (hi : i ≤ L.length) : ((L.drop b).take (i - b)).isEmpty = false := by
 cases he : (L.drop b).take (i - b) with
 | nil =>
  have := congrArg List.length he
  rw [List.length_take, List.length_drop] at this
  simp only [List.length_nil] at this
  omega
 | cons _ _ => rfl
theorem sep_some {s : ByteArray} {b i : Nat} {out : List (List UInt8)} (hbi : b < i) (hlt : i < s.size) (hsp : Lib.isSp (byteAt s i) = true) (hf : out ++ Lib.fieldsGo ((s.data.toList.drop b).take (i - b)) (s.data.toList.drop i) = Lib.fields s.data.toList) :
  out ++ [(s.data.toList.drop b).take (i - b)] ++ Lib.fieldsGo ((s.data.toList.drop (i + 1)).take (i + 1 - (i + 1))) (s.data.toList.drop (i + 1)) = Lib.fields s.data.toList := by
 rw [← hf, drop_cons hlt, Lib.fieldsGo, if_pos hsp, cur_empty hbi (by rw [dtl]; omega), Nat.sub_self, List.take_zero]
 simp
theorem sep_none {s : ByteArray} {b i : Nat} {out : List (List UInt8)} (hbi : b = i) (hlt : i < s.size) (hsp : Lib.isSp (byteAt s i) = true) (hf : out ++ Lib.fieldsGo ((s.data.toList.drop b).take (i - b)) (s.data.toList.drop i) = Lib.fields s.data.toList) :
  out ++ Lib.fieldsGo ((s.data.toList.drop (i + 1)).take (i + 1 - (i + 1))) (s.data.toList.drop (i + 1)) = Lib.fields s.data.toList := by
 subst hbi
 rw [← hf, drop_cons hlt, Lib.fieldsGo, if_pos hsp, Nat.sub_self, Nat.sub_self, List.take_zero, List.take_zero]
 rfl
theorem end_some {s : ByteArray} {b i : Nat} {out : List (List UInt8)} (hbi : b < i) (he : i = s.size) (hf : out ++ Lib.fieldsGo ((s.data.toList.drop b).take (i - b)) (s.data.toList.drop i) = Lib.fields s.data.toList) :
  out ++ [(s.data.toList.drop b).take (i - b)] = Lib.fields s.data.toList := by
 rw [← hf, List.drop_of_length_le (i := i) (by rw [dtl]; omega), Lib.fieldsGo, cur_empty hbi (by rw [dtl]; omega)]
 rfl
theorem end_none {s : ByteArray} {b i : Nat} {out : List (List UInt8)} (hbi : b = i) (he : i = s.size) (hf : out ++ Lib.fieldsGo ((s.data.toList.drop b).take (i - b)) (s.data.toList.drop i) = Lib.fields s.data.toList) :
  out = Lib.fields s.data.toList := by
 subst hbi
 rw [← hf, List.drop_of_length_le (i := b) (l := s.data.toList) (by rw [dtl]; omega), Nat.sub_self, List.take_zero, Lib.fieldsGo]
 simp
theorem more {s : ByteArray} {b i : Nat} {out : List (List UInt8)} (hbi : b ≤ i) (hlt : i < s.size) (hsp : Lib.isSp (byteAt s i) = false) (hf : out ++ Lib.fieldsGo ((s.data.toList.drop b).take (i - b)) (s.data.toList.drop i) = Lib.fields s.data.toList) :
  out ++ Lib.fieldsGo ((s.data.toList.drop b).take (i + 1 - b)) (s.data.toList.drop (i + 1)) = Lib.fields s.data.toList := by
 rw [← hf, drop_cons hlt, Lib.fieldsGo_more _ _ _ hsp]
 congr 2
 rw [show i + 1 - b = (i - b) + 1 by omega, List.take_add_one]
 congr 1
 rw [List.getElem?_drop, show b + (i - b) = i by omega, byteAt, List.getElem?_eq_getElem (by rw [dtl]; exact hlt), List.getD_eq_getElem?_getD, List.getElem?_eq_getElem (by rw [dtl]; exact hlt)]
 rfl
set_option maxRecDepth 20000 in
set_option maxHeartbeats 4000000 in
theorem specSplit_vc (s : ByteArray) (hs : s.size ≤ 2000000) : VC Tryd.prog 24 [.v false .str s] (· = rSB (splitF s.data.toList)) := by
 refine VC.of_body hT Tryd.func24 rfl (by kernel_rfl) [(.tmp 2, false, sSt), (.tmp 3, false, .bool)] (by kernel_rfl) ?_
 show VW _ _ ([.v false .str s, D, D, D, D, D, D, D, D, D, D, D, D, D, D, D, D, D, D, D, D, D, D, D, D, D, D, D, D, D, D, D, D, D, D, D, D, D, D, D, D, D, D, D, D, D, D, D, D, D, D, D, D, D, D, D, D, D, D, D, D, D]) _
 have hno : splitOk s.data.toList = false → splitF s.data.toList = ([], false) := fun h => by rw [splitF, if_neg (by rw [h]; decide)]
 repeat refine VW.seq ?_
 refine VW.regl hT fun K hK => ?_
 simp only [wq, simprocAttr]
 refine hK _ ?_
 clear hK K
 try refine vthen_n ?_
 repeat refine VW.seq ?_
 refine VW.regl hT fun K hK => ?_
 simp only [wq, simprocAttr]
 refine hK _ ?_
 clear hK K
 try refine vthen_n ?_
 repeat refine VW.seq ?_
 refine VW.regl hT fun K hK => ?_
 simp only [wq, simprocAttr]
 refine hK _ ?_
 clear hK K
 try refine vthen_n ?_
 repeat refine VW.seq ?_
 refine VW.cond rfl (fun hc => ?_) (fun hc => ?_)
 ·have hc : (s.size : Int) > 600 := of_decide_eq_true hc
  repeat refine VW.seq ?_
  refine VW.regl hT fun K hK => ?_
  simp only [wq, simprocAttr]
  refine hK _ ?_
  clear hK K
  try refine vthen_n ?_
  refine VW.ret ⟨.inl rfl, _, rfl, ?_⟩
  rw [hno (by rw [splitOk, decide_eq_false (by rw [dtl]; omega)]; rfl)]
  rfl
 have h600 : s.size ≤ 600 := by
  have : ¬ (s.size : Int) > 600 := of_decide_eq_false hc
  omega
 refine VW.skip (vthen_n ?_)
 repeat refine VW.seq ?_
 refine VW.regl hT fun K hK => ?_
 simp only [wq, simprocAttr]
 refine hK _ ?_
 clear hK K
 try refine vthen_n ?_
 repeat refine VW.seq ?_
 refine VW.regl hT fun K hK => ?_
 simp only [wq, simprocAttr]
 refine hK _ ?_
 clear hK K
 try refine vthen_n ?_
 repeat refine VW.seq ?_
 refine VW.block ?_
 refine VW.loop (α := Nat × Nat × List (List UInt8)) [(0, none), (4, some (9, .str)), (5, none), (6, none)] (fun q => [.v false .str s, D, D, D, .root (.val false) sSt .own (q.2.2.map bs), .v false (.int .i64) (q.2.1), .v false (.int .i64) (q.1), D, D, D, D, D, D, D, D, D, D, D, D, D, D, D, D, D, D, D, D, D, D, D, D, D, D, D, D, D, D, D, D, D, D, D, D, D, D, D, D, D, D, D, D, D, D, D, D, D, D, D, D, D, D, D])
  (fun q => (q.1 ≤ s.size ∧ q.2.1 ≤ q.1 ∧ rangeTo s q.1 ∧ (∀ k, q.2.1 ≤ k → k < q.1 → True) ∧ q.2.2 ++ Lib.fieldsGo ((s.data.toList.drop q.2.1).take (q.1 - q.2.1)) (s.data.toList.drop q.1) = Lib.fields s.data.toList ∧ q.2.2.length ≤ q.1) ∨ (q.1 = s.size + 1 ∧ rangeTo s s.size ∧ q.2.2 = Lib.fields s.data.toList)) (fun q => s.size + 1 - q.1)
  ⟨(0, 0, []), .inl ⟨by show 0 ≤ s.size; omega, Nat.le_refl _, fun k (hk : k < 0) => by omega, fun _ _ _ => trivial, by simp [Lib.fields], Nat.le_refl _⟩, ?_⟩ fun q hq => ?_
 ·simp only [wn, wq, simprocAttr]
  try rfl
 obtain ⟨i, b, out⟩ := q
 rcases hq with ⟨hi, hb, hr, _, hf, hol⟩ | ⟨hi, hr, hf⟩
 case inr =>
  have hi : i = s.size + 1 := hi
  have hf : out = Lib.fields s.data.toList := hf
  subst hi
  have hf : out = Lib.fields s.data.toList := hf
  repeat refine VW.seq ?_
  refine VW.regl hT fun K hK => ?_
  simp only [wq, simprocAttr]
  refine hK _ ?_
  clear hK K
  try refine vthen_n ?_
  repeat refine VW.seq ?_
  refine VW.cond rfl (fun hc => ?_) (fun hc => ?_)
  ·have : ((s.size + 1 : Nat) : Int) ≤ (s.size : Int) := of_decide_eq_true hc
   omega
  refine VW.exit ?_
  show vthen _ _ _ .normal _
  refine vthen_n ?_
  repeat refine VW.seq ?_
  refine VW.regl hT fun K hK => ?_
  simp only [wq, simprocAttr]
  refine hK _ ?_
  clear hK K
  try refine vthen_n ?_
  have hall := range_all hr
  have hfl : out.length ≤ 601 := by
   have := fieldsGo_len s.data.toList []
   rw [dtl] at this
   rw [hf]
   exact Nat.le_trans this (by omega)
  repeat refine VW.seq ?_
  refine VW.cond rfl (fun hc => ?_) (fun hc => ?_)
  ·have hc : ((out.map bs).length : Int) > 24 := of_decide_eq_true hc
   rw [List.length_map] at hc
   repeat refine VW.seq ?_
   refine VW.regl hT fun K hK => ?_
   simp only [wq, simprocAttr]
   refine hK _ ?_
   clear hK K
   try refine vthen_n ?_
   refine VW.ret ⟨.inl rfl, _, rfl, ?_⟩
   rw [hno (by rw [splitOk, decide_eq_false (p := (Lib.fields s.data.toList).length ≤ 24) (by rw [← hf]; omega)]; simp)]
   rfl
  have hc : ¬ ((out.map bs).length : Int) > 24 := of_decide_eq_false hc
  rw [List.length_map] at hc
  refine VW.skip (vthen_n ?_)
  repeat refine VW.seq ?_
  refine VW.regl hT fun K hK => ?_
  simp only [wq, simprocAttr]
  refine hK _ ?_
  clear hK K
  try refine vthen_n ?_
  refine VW.ret ⟨.inl rfl, _, rfl, ?_⟩
  rw [splitF, if_pos (by rw [splitOk, decide_eq_true (by rw [dtl]; omega), hall, decide_eq_true (by rw [← hf]; omega)]; rfl), ← hf]
 have hi : i ≤ s.size := hi
 have hb : b ≤ i := hb
 have hr : rangeTo s i := hr
 have hf : out ++ Lib.fieldsGo ((s.data.toList.drop b).take (i - b)) (s.data.toList.drop i) = Lib.fields s.data.toList := hf
 have hol : out.length ≤ i := hol
 repeat refine VW.seq ?_
 refine VW.regl hT fun K hK => ?_
 simp only [wq, simprocAttr]
 refine hK _ ?_
 clear hK K
 try refine vthen_n ?_
 repeat refine VW.seq ?_
 refine VW.cond rfl (fun hc => ?_) (fun hc => ?_)
 case refine_2.inl.refine_2 =>
  have : ¬ (i : Int) ≤ (s.size : Int) := of_decide_eq_false hc
  omega
 refine VW.skip (vthen_n ?_)
 repeat refine VW.seq ?_
 refine VW.block ?_
 repeat refine VW.seq ?_
 refine VW.regl hT fun K hK => ?_
 simp only [wq, simprocAttr]
 refine vbr (fun h => ?_) (fun h => ?_) <;> simp only [wq, simprocAttr]
 case refine_2 =>
  have he : i = s.size := by
   have : ¬ (i : Int) < (s.size : Int) := of_decide_eq_false h
   omega
  refine hK _ ?_
  clear hK K
  try refine vthen_n ?_
  repeat refine VW.seq ?_
  refine VW.cond rfl (fun hc => by cases hc) (fun hc => ?_)
  refine VW.skip (vthen_n ?_)
  repeat refine VW.seq ?_
  refine VW.regl hT fun K hK => ?_
  simp only [wq, simprocAttr]
  refine vbr (fun h => ?_) (fun h => ?_) <;> simp only [wq, simprocAttr]
  case refine_1 =>
   have : (i : Int) < (s.size : Int) := of_decide_eq_true h
   omega
  refine hK _ ?_
  clear hK K
  try refine vthen_n ?_
  repeat refine VW.seq ?_
  refine VW.cond rfl (fun hc => by cases hc) (fun hc => ?_)
  refine VW.skip (vthen_n ?_)
  repeat refine VW.seq ?_
  refine VW.regl hT fun K hK => ?_
  simp only [wq, simprocAttr]
  refine hK _ ?_
  clear hK K
  try refine vthen_n ?_
  repeat refine VW.seq ?_
  refine VW.cond rfl (fun hc => ?_) (fun hc => ?_)
  ·have hbi : b < i := by
    have : (b : Int) < (i : Int) := of_decide_eq_true hc
    omega
   repeat refine VW.seq ?_
   refine VW.regl hT fun K hK => ?_
   simp only [wq, simprocAttr]
   refine ⟨decide_eq_true ⟨by omega, by omega, by show (i : Int) ≤ (s.size : Int); omega⟩, by simp [limOk]; omega, ?_⟩
   refine hK _ ?_
   clear hK K
   try refine vthen_n ?_
   show vthen _ _ _ .normal _
   refine vthen_n ?_
   repeat refine VW.seq ?_
   refine VW.regl hT fun K hK => ?_
   simp only [wq, simprocAttr]
   refine hK _ ?_
   clear hK K
   try refine vthen_n ?_
   show vthen _ _ _ .normal _
   refine vthen_n ?_
   repeat refine VW.seq ?_
   refine VW.regl hT fun K hK => ?_
   simp only [wq, simprocAttr]
   refine hK _ ?_
   clear hK K
   try refine vthen_n ?_
   refine ⟨(i + 1, i + 1, out ++ [((s.data.toList.drop b).take (i - b))]), .inr ⟨by omega, (by rw [← he]; exact hr), end_some hbi he hf⟩, ?_, by show s.size + 1 - (i + 1) < s.size + 1 - i; omega⟩
   simp only [wn, wq, simprocAttr]
   rw [wrap64 (by omega) (by omega), ext_bs, List.map_append]
   rfl
  ·have hbi : b = i := by
    have : ¬ (b : Int) < (i : Int) := of_decide_eq_false hc
    omega
   refine VW.skip ?_
   show vthen _ _ _ .normal _
   refine vthen_n ?_
   repeat refine VW.seq ?_
   refine VW.regl hT fun K hK => ?_
   simp only [wq, simprocAttr]
   refine hK _ ?_
   clear hK K
   try refine vthen_n ?_
   show vthen _ _ _ .normal _
   refine vthen_n ?_
   repeat refine VW.seq ?_
   refine VW.regl hT fun K hK => ?_
   simp only [wq, simprocAttr]
   refine hK _ ?_
   clear hK K
   try refine vthen_n ?_
   refine ⟨(i + 1, i + 1, out), .inr ⟨by omega, (by rw [← he]; exact hr), end_none hbi he hf⟩, ?_, by show s.size + 1 - (i + 1) < s.size + 1 - i; omega⟩
   simp only [wn, wq, simprocAttr]
   rw [wrap64 (by omega) (by omega)]
   rfl
 have hlt : i < s.size := by
  have : (i : Int) < (s.size : Int) := of_decide_eq_true h
  omega
 have hb0 := byte_lt (byteAt s i)
 refine ⟨decide_eq_true ⟨Int.natCast_nonneg _, by show (i : Int) < (s.size : Int); omega⟩, ?_⟩
 rw [byte_eq hlt]
 refine vbr (fun h2 => ?_) (fun h2 => ?_) <;> simp only [wq, simprocAttr]
 case refine_2 =>
  have h2 : ((byteAt s i).toNat : Int) < 32 := of_decide_eq_true h2
  refine hK _ ?_
  clear hK K
  try refine vthen_n ?_
  repeat refine VW.seq ?_
  refine VW.cond rfl (fun hc => ?_) (fun hc => by cases hc)
  repeat refine VW.seq ?_
  refine VW.regl hT fun K hK => ?_
  simp only [wq, simprocAttr]
  refine hK _ ?_
  clear hK K
  try refine vthen_n ?_
  refine VW.ret ⟨.inl rfl, _, rfl, ?_⟩
  rw [hno (by rw [splitOk, range_not hlt (by simp [inR]; omega)]; simp)]
  rfl
 have h2 : ¬ ((byteAt s i).toNat : Int) < 32 := of_decide_eq_false h2
 refine ⟨decide_eq_true ⟨Int.natCast_nonneg _, by show (i : Int) < (s.size : Int); omega⟩, ?_⟩
 rw [byte_eq hlt]
 refine hK _ ?_
 clear hK K
 try refine vthen_n ?_
 repeat refine VW.seq ?_
 refine VW.cond rfl (fun hc => ?_) (fun hc => ?_)
 ·have hc : ((byteAt s i).toNat : Int) > 126 := of_decide_eq_true hc
  repeat refine VW.seq ?_
  refine VW.regl hT fun K hK => ?_
  simp only [wq, simprocAttr]
  refine hK _ ?_
  clear hK K
  try refine vthen_n ?_
  refine VW.ret ⟨.inl rfl, _, rfl, ?_⟩
  rw [hno (by rw [splitOk, range_not hlt (by simp [inR]; omega)]; simp)]
  rfl
 have h3 : ¬ ((byteAt s i).toNat : Int) > 126 := of_decide_eq_false hc
 have hin : inR (byteAt s i) = true := by simp [inR]; omega
 have hr1 : rangeTo s (i + 1) := fun k h => by
  rcases Nat.lt_or_ge k i with h1 | h1
  ·exact hr k h1
  ·rw [show k = i by omega]
   exact hin
 refine VW.skip (vthen_n ?_)
 repeat refine VW.seq ?_
 refine VW.regl hT fun K hK => ?_
 simp only [wq, simprocAttr]
 refine vbr (fun h => ?_) (fun h => ?_) <;> simp only [wq, simprocAttr]
 case refine_2 =>
  have : ¬ (i : Int) < (s.size : Int) := of_decide_eq_false h
  omega
 refine ⟨decide_eq_true ⟨Int.natCast_nonneg _, by show (i : Int) < (s.size : Int); omega⟩, ?_⟩
 rw [byte_eq hlt]
 refine hK _ ?_
 clear hK K
 try refine vthen_n ?_
 repeat refine VW.seq ?_
 refine VW.cond rfl (fun hc => ?_) (fun hc => ?_)
 ·have hsp : Lib.isSp (byteAt s i) = false := by
   rw [sp_inR hin]
   have : ¬ ((byteAt s i).toNat : Int) = 32 := by simpa using hc
   exact decide_eq_false (by omega)
  refine VW.exit ?_
  show vthen _ _ _ .normal _
  refine vthen_n ?_
  repeat refine VW.seq ?_
  refine VW.regl hT fun K hK => ?_
  simp only [wq, simprocAttr]
  refine hK _ ?_
  clear hK K
  try refine vthen_n ?_
  refine ⟨(i + 1, b, out), .inl ⟨by omega, by show b ≤ i + 1; omega, hr1, fun _ _ _ => trivial, more hb hlt hsp hf, by show out.length ≤ i + 1; omega⟩, ?_, by show s.size + 1 - (i + 1) < s.size + 1 - i; omega⟩
  simp only [wn, wq, simprocAttr]
  rw [wrap64 (by omega) (by omega)]
  rfl
 have hsp : Lib.isSp (byteAt s i) = true := by
  rw [sp_inR hin]
  have : ((byteAt s i).toNat : Int) = 32 := by simpa using hc
  exact decide_eq_true (by omega)
 refine VW.skip (vthen_n ?_)
 repeat refine VW.seq ?_
 refine VW.regl hT fun K hK => ?_
 simp only [wq, simprocAttr]
 refine hK _ ?_
 clear hK K
 try refine vthen_n ?_
 repeat refine VW.seq ?_
 refine VW.cond rfl (fun hc => ?_) (fun hc => ?_)
 ·have hbi : b < i := by
   have : (b : Int) < (i : Int) := of_decide_eq_true hc
   omega
  repeat refine VW.seq ?_
  refine VW.regl hT fun K hK => ?_
  simp only [wq, simprocAttr]
  refine ⟨decide_eq_true ⟨by omega, by omega, by show (i : Int) ≤ (s.size : Int); omega⟩, by simp [limOk]; omega, ?_⟩
  refine hK _ ?_
  clear hK K
  try refine vthen_n ?_
  show vthen _ _ _ .normal _
  refine vthen_n ?_
  repeat refine VW.seq ?_
  refine VW.regl hT fun K hK => ?_
  simp only [wq, simprocAttr]
  refine hK _ ?_
  clear hK K
  try refine vthen_n ?_
  show vthen _ _ _ .normal _
  refine vthen_n ?_
  repeat refine VW.seq ?_
  refine VW.regl hT fun K hK => ?_
  simp only [wq, simprocAttr]
  refine hK _ ?_
  clear hK K
  try refine vthen_n ?_
  refine ⟨(i + 1, i + 1, out ++ [((s.data.toList.drop b).take (i - b))]), .inl ⟨by omega, Nat.le_refl _, hr1, fun _ _ _ => trivial, sep_some hbi hlt hsp hf, by rw [List.length_append]; simp only [List.length_cons, List.length_nil]; omega⟩, ?_, by show s.size + 1 - (i + 1) < s.size + 1 - i; omega⟩
  simp only [wn, wq, simprocAttr]
  rw [wrap64 (by omega) (by omega), ext_bs, List.map_append]
  rfl
 ·have hbi : b = i := by
   have : ¬ (b : Int) < (i : Int) := of_decide_eq_false hc
   omega
  refine VW.skip ?_
  show vthen _ _ _ .normal _
  refine vthen_n ?_
  repeat refine VW.seq ?_
  refine VW.regl hT fun K hK => ?_
  simp only [wq, simprocAttr]
  refine hK _ ?_
  clear hK K
  try refine vthen_n ?_
  show vthen _ _ _ .normal _
  refine vthen_n ?_
  repeat refine VW.seq ?_
  refine VW.regl hT fun K hK => ?_
  simp only [wq, simprocAttr]
  refine hK _ ?_
  clear hK K
  try refine vthen_n ?_
  refine ⟨(i + 1, i + 1, out), .inl ⟨by omega, Nat.le_refl _, hr1, fun _ _ _ => trivial, sep_none hbi hlt hsp hf, by show out.length ≤ i + 1; omega⟩, ?_, by show s.size + 1 - (i + 1) < s.size + 1 - i; omega⟩
  simp only [wn, wq, simprocAttr]
  rw [wrap64 (by omega) (by omega)]
  rfl
end Go.Proofs.YtoeblmcibheldaaDoor.V.W
end
section
namespace Go.Proofs.YtoeblmcibheldaaDoor.V.W
open Go Go.RowKit
set_option maxRecDepth 20000 in
set_option maxHeartbeats 2000000 in
theorem specFmtAct_vc (a : Ac) : VC Tryd.prog 7 [.v true sAct a] (· = rTB (fmtAct a)) := by
 refine VC.of_body hT Tryd.func7 rfl (by kernel_rfl) [(.tmp 2, false, .str), (.tmp 3, false, .bool)] (by kernel_rfl) ?_
 obtain ⟨kd, nd, x, y⟩ := a
 show VW _ _ ([.v true sAct (kd, nd, x, y), D, D, D, D, D, D, D, D, D, D, D, D, D, D, D, D, D, D, D, D, D, D, D, D, D, D, D, D, D, D, D, D, D, D, D, D]) _
 repeat refine VW.seq ?_
 refine VW.regl hT fun K hK => ?_
 simp only [wq, simprocAttr]
 refine hK _ ?_
 clear hK K
 try refine vthen_n ?_
 repeat refine VW.seq ?_
 refine VW.regl hT fun K hK => ?_
 simp only [wq, simprocAttr]
 refine vcall_of (specActOk_vc _) ?_
 simp only [wq, simprocAttr]
 refine hK _ ?_
 clear hK K
 try refine vthen_n ?_
 repeat refine VW.seq ?_
 refine VW.cond rfl (fun hc => ?_) (fun hc => ?_)
 ·repeat refine VW.seq ?_
  refine VW.regl hT fun K hK => ?_
  simp only [wq, simprocAttr]
  refine hK _ ?_
  clear hK K
  try refine vthen_n ?_
  refine VW.ret ⟨.inl rfl, _, rfl, ?_⟩
  have hc : actOk (kd, nd, x, y) = false := (Bool.not_eq_true' _).mp hc
  rw [fmtAct, if_neg (by rw [hc]; decide)]
  rfl
 have hok : actOk (kd, nd, x, y) = true := (Bool.not_eq_false' _).mp hc
 refine VW.skip (vthen_n ?_)
 obtain ⟨hn, hx, hy, hk⟩ := actOk_iff hok
 have hw := word_len kd
 have hi : decide (0 ≤ kd ∧ kd < 5) = true := decide_eq_true (by omega)
 have li := itoa_len (n := nd) (by omega) (by omega)
 rw [bs_size] at li
 have hg : ([⟨#[]⟩, ⟨#[119, 114, 105, 116, 101]⟩, ⟨#[114, 101, 97, 100]⟩, ⟨#[99, 117, 116]⟩, ⟨#[111, 112, 101, 110]⟩] : List ByteArray).getD kd.toNat ByteArray.empty = bs (word kd) := by
  rcases hk with rfl | rfl | rfl | rfl <;> rfl
 have e5 : decide ((bs (word kd)).size + (⟨#[32]⟩ : ByteArray).size ≤ 9223372036854775807) = true := decide_eq_true (by rw [bs_size]; show _ + 1 ≤ _; omega)
 have e9 : decide ((bs (word kd) ++ (⟨#[32]⟩ : ByteArray)).size + (bs (Lib.itoa nd)).size ≤ 9223372036854775807) = true := decide_eq_true (by rw [show (⟨#[32]⟩ : ByteArray) = bs [32] from rfl, bs_app, bs_size, bs_size, List.length_append]; show _ + 1 + _ ≤ _; omega)
 repeat refine VW.seq ?_
 refine VW.any hT hm fun K hK W hW => ?_
 apply cutl; intro tK
 apply cutl; intro t2047
 apply cutl; intro t1023
 apply cutl; intro t511
 apply cutl; intro t479
 apply cutl; intro t255
 apply cutl; intro t463
 apply cutl; intro t223
 apply cutl; intro t127
 apply cutl; intro t455
 apply cutl; intro t207
 apply cutl; intro t95
 apply cutl; intro t454
 apply cutl; intro t451
 apply cutl; intro t199
 apply cutl; intro t79
 apply cutl; intro t450
 apply cutl; intro t198
 apply cutl; intro t195
 apply cutl; intro t71
 apply cutl; intro t194
 apply cutl; intro t70
 apply cutl; intro t67
 ·refine hW.takeF 0 1 2 _ (by kernel_rfl) ?_
  simp only [wy, wq, simprocAttr]
  refine hW.takeF 2 6 66 _ (by kernel_rfl) ?_
  simp only [wy, wq, simprocAttr]
  refine hW.all 66 [(0, 67), (2, 70), (7, 194)] _ (by kernel_rfl) (by simp) ?_
  simp only [wy, wq, simprocAttr]
  exact ⟨t67.h, t70.h, t194.h⟩
 ·refine hW.all 67 [(2, 71), (7, 195)] _ (by kernel_rfl) (by simp) ?_
  simp only [wy, wq, simprocAttr]
  exact ⟨t71.h, t195.h⟩
 ·refine hW.all 70 [(0, 71), (7, 198)] _ (by kernel_rfl) (by simp) ?_
  simp only [wy, wq, simprocAttr]
  exact ⟨t71.h, t198.h⟩
 ·refine hW.all 194 [(0, 195), (2, 198), (8, 450)] _ (by kernel_rfl) (by simp) ?_
  simp only [wy, wq, simprocAttr]
  refine ⟨?_, ?_, ?_⟩
  ·exact t195.h
  ·exact t198.h
  ·refine vcall_of (specFormatInt_vc nd (by omega) (by omega)) ?_
   simp only [wq, simprocAttr]
   exact t450.h
 ·refine hW.all 71 [(3, 79), (7, 199)] _ (by kernel_rfl) (by simp) ?_
  simp only [wy, wq, simprocAttr]
  exact ⟨⟨hi, t79.h⟩, t199.h⟩
 ·refine hW.all 195 [(2, 199), (8, 451)] _ (by kernel_rfl) (by simp) ?_
  simp only [wy, wq, simprocAttr]
  refine ⟨?_, ?_⟩
  ·exact t199.h
  ·refine vcall_of (specFormatInt_vc nd (by omega) (by omega)) ?_
   simp only [wq, simprocAttr]
   exact t451.h
 ·refine hW.all 198 [(0, 199), (8, 454)] _ (by kernel_rfl) (by simp) ?_
  simp only [wy, wq, simprocAttr]
  refine ⟨?_, ?_⟩
  ·exact t199.h
  ·refine vcall_of (specFormatInt_vc nd (by omega) (by omega)) ?_
   simp only [wq, simprocAttr]
   exact t454.h
 ·refine hW.all 450 [(0, 451), (2, 454)] _ (by kernel_rfl) (by simp) ?_
  simp only [wy, wq, simprocAttr]
  exact ⟨t451.h, t454.h⟩
 ·refine hW.all 79 [(4, 95), (7, 207)] _ (by kernel_rfl) (by simp) ?_
  simp only [wy, wq, simprocAttr]
  refine ⟨?_, ?_⟩
  ·rw [hg]
   exact t95.h
  ·exact t207.h
 ·refine hW.all 199 [(3, 207), (8, 455)] _ (by kernel_rfl) (by simp) ?_
  simp only [wy, wq, simprocAttr]
  refine ⟨?_, ?_⟩
  ·refine ⟨hi, ?_⟩
   exact t207.h
  ·refine vcall_of (specFormatInt_vc nd (by omega) (by omega)) ?_
   simp only [wq, simprocAttr]
   exact t455.h
 ·refine hW.all 451 [(2, 455)] _ (by kernel_rfl) (by simp) ?_
  simp only [wy, wq, simprocAttr]
  exact t455.h
 ·refine hW.all 454 [(0, 455)] _ (by kernel_rfl) (by simp) ?_
  simp only [wy, wq, simprocAttr]
  exact t455.h
 ·refine hW.all 95 [(5, 127), (7, 223)] _ (by kernel_rfl) (by simp) ?_
  simp only [wy, wq, simprocAttr]
  exact ⟨⟨e5, t127.h⟩, t223.h⟩
 ·refine hW.all 207 [(4, 223), (8, 463)] _ (by kernel_rfl) (by simp) ?_
  simp only [wy, wq, simprocAttr]
  refine ⟨?_, ?_⟩
  ·rw [hg]
   exact t223.h
  ·refine vcall_of (specFormatInt_vc nd (by omega) (by omega)) ?_
   simp only [wq, simprocAttr]
   exact t463.h
 ·refine hW.all 455 [(3, 463)] _ (by kernel_rfl) (by simp) ?_
  simp only [wy, wq, simprocAttr]
  exact ⟨hi, t463.h⟩
 ·refine hW.all 127 [(7, 255)] _ (by kernel_rfl) (by simp) ?_
  simp only [wy, wq, simprocAttr]
  exact t255.h
 ·refine hW.all 223 [(5, 255), (8, 479)] _ (by kernel_rfl) (by simp) ?_
  simp only [wy, wq, simprocAttr]
  refine ⟨?_, ?_⟩
  ·refine ⟨e5, ?_⟩
   exact t255.h
  ·refine vcall_of (specFormatInt_vc nd (by omega) (by omega)) ?_
   simp only [wq, simprocAttr]
   exact t479.h
 ·refine hW.all 463 [(4, 479)] _ (by kernel_rfl) (by simp) ?_
  simp only [wy, wq, simprocAttr]
  skip
  rw [hg]
  exact t479.h
 ·refine hW.all 255 [(8, 511)] _ (by kernel_rfl) (by simp) ?_
  simp only [wy, wq, simprocAttr]
  skip
  refine vcall_of (specFormatInt_vc nd (by omega) (by omega)) ?_
  simp only [wq, simprocAttr]
  exact t511.h
 ·refine hW.all 479 [(5, 511)] _ (by kernel_rfl) (by simp) ?_
  simp only [wy, wq, simprocAttr]
  exact ⟨e5, t511.h⟩
 ·refine hW.all 511 [(9, 1023)] _ (by kernel_rfl) (by simp) ?_
  simp only [wy, wq, simprocAttr]
  exact ⟨e9, t1023.h⟩
 ·refine hW.all 1023 [(10, 2047)] _ (by kernel_rfl) (by simp) ?_
  simp only [wy, wq, simprocAttr]
  exact t2047.h
 ·refine hW.done 2047 _ (by kernel_rfl) ?_
  exact tK.h
 refine hK _ ?_
 clear hW W hK K
 refine vthen_n ?_
 refine VW.weak (weak_norm [(1, none), (4, none)] _) ?_
 simp only [wn, wq, simprocAttr]
 rw [show bs (word kd) ++ (⟨#[32]⟩ : ByteArray) ++ bs (Lib.itoa nd) = bs (word kd ++ 32 :: Lib.itoa nd) from by rw [show (⟨#[32]⟩ : ByteArray) = bs [32] from rfl, bs_app, bs_app, List.append_assoc]; rfl]
 have hfin : fmtAct (kd, nd, x, y) = (bs (actText (kd, nd, x, y)), true) := if_pos hok
 rw [hfin]
 clear hfin hok hc hi hg e5 e9
 unfold actText
 have lx := itoa_len (n := x) (by omega) (by omega)
 have ly := itoa_len (n := y) (by omega) (by omega)
 rw [bs_size] at lx ly
 rcases hk with rfl | rfl | rfl | rfl
 ·repeat refine VW.seq ?_
  refine VW.regl hT fun K hK => ?_
  simp only [wq, simprocAttr]
  refine hK _ ?_
  clear hK K
  try refine vthen_n ?_
  repeat refine VW.seq ?_
  refine VW.cond rfl (fun hc => ?_) (fun hc => by cases hc)
  repeat refine VW.seq ?_
  refine VW.regl hT fun K hK => ?_
  simp only [wq, simprocAttr]
  refine ⟨decide_eq_true (by simp only [bs32, bs_app, bs_size, List.length_append, List.length_cons, List.length_nil]; omega), ?_⟩
  refine vcall_of (specFormatInt_vc x (by omega) (by omega)) ?_
  simp only [wq, simprocAttr]
  refine ⟨decide_eq_true (by simp only [bs32, bs_app, bs_size, List.length_append, List.length_cons, List.length_nil]; omega), ?_⟩
  refine hK _ ?_
  clear hK K
  try refine vthen_n ?_
  repeat refine VW.seq ?_
  refine VW.regl hT fun K hK => ?_
  simp only [wq, simprocAttr]
  refine hK _ ?_
  clear hK K
  try refine vthen_n ?_
  repeat refine VW.seq ?_
  refine VW.cond rfl (fun hc => ?_) (fun hc => by cases hc)
  repeat refine VW.seq ?_
  refine VW.regl hT fun K hK => ?_
  simp only [wq, simprocAttr]
  refine ⟨decide_eq_true (by simp only [bs32, bs_app, bs_size, List.length_append, List.length_cons, List.length_nil]; omega), ?_⟩
  refine vcall_of (specFormatInt_vc y (by omega) (by omega)) ?_
  simp only [wq, simprocAttr]
  refine ⟨decide_eq_true (by simp only [bs32, bs_app, bs_size, List.length_append, List.length_cons, List.length_nil]; omega), ?_⟩
  refine hK _ ?_
  clear hK K
  try refine vthen_n ?_
  repeat refine VW.seq ?_
  refine VW.regl hT fun K hK => ?_
  simp only [wq, simprocAttr]
  refine hK _ ?_
  clear hK K
  try refine vthen_n ?_
  refine VW.ret ⟨.inl rfl, _, rfl, ?_⟩
  simp [bs32, bs_app]
 ·repeat refine VW.seq ?_
  refine VW.regl hT fun K hK => ?_
  simp only [wq, simprocAttr]
  refine hK _ ?_
  clear hK K
  try refine vthen_n ?_
  repeat refine VW.seq ?_
  refine VW.cond rfl (fun hc => ?_) (fun hc => by cases hc)
  repeat refine VW.seq ?_
  refine VW.regl hT fun K hK => ?_
  simp only [wq, simprocAttr]
  refine ⟨decide_eq_true (by simp only [bs32, bs_app, bs_size, List.length_append, List.length_cons, List.length_nil]; omega), ?_⟩
  refine vcall_of (specFormatInt_vc x (by omega) (by omega)) ?_
  simp only [wq, simprocAttr]
  refine ⟨decide_eq_true (by simp only [bs32, bs_app, bs_size, List.length_append, List.length_cons, List.length_nil]; omega), ?_⟩
  refine hK _ ?_
  clear hK K
  try refine vthen_n ?_
  repeat refine VW.seq ?_
  refine VW.regl hT fun K hK => ?_
  simp only [wq, simprocAttr]
  refine hK _ ?_
  clear hK K
  try refine vthen_n ?_
  repeat refine VW.seq ?_
  refine VW.cond rfl (fun hc => by cases hc) (fun hc => ?_)
  refine VW.skip (vthen_n ?_)
  repeat refine VW.seq ?_
  refine VW.regl hT fun K hK => ?_
  simp only [wq, simprocAttr]
  refine hK _ ?_
  clear hK K
  try refine vthen_n ?_
  refine VW.ret ⟨.inl rfl, _, rfl, ?_⟩
  simp [bs32, bs_app]
 ·repeat refine VW.seq ?_
  refine VW.regl hT fun K hK => ?_
  simp only [wq, simprocAttr]
  refine hK _ ?_
  clear hK K
  try refine vthen_n ?_
  repeat refine VW.seq ?_
  refine VW.cond rfl (fun hc => by cases hc) (fun hc => ?_)
  refine VW.skip (vthen_n ?_)
  repeat refine VW.seq ?_
  refine VW.regl hT fun K hK => ?_
  simp only [wq, simprocAttr]
  refine hK _ ?_
  clear hK K
  try refine vthen_n ?_
  repeat refine VW.seq ?_
  refine VW.cond rfl (fun hc => by cases hc) (fun hc => ?_)
  refine VW.skip (vthen_n ?_)
  repeat refine VW.seq ?_
  refine VW.regl hT fun K hK => ?_
  simp only [wq, simprocAttr]
  refine hK _ ?_
  clear hK K
  try refine vthen_n ?_
  refine VW.ret ⟨.inl rfl, _, rfl, ?_⟩
  simp [bs32, bs_app]
 ·repeat refine VW.seq ?_
  refine VW.regl hT fun K hK => ?_
  simp only [wq, simprocAttr]
  refine hK _ ?_
  clear hK K
  try refine vthen_n ?_
  repeat refine VW.seq ?_
  refine VW.cond rfl (fun hc => by cases hc) (fun hc => ?_)
  refine VW.skip (vthen_n ?_)
  repeat refine VW.seq ?_
  refine VW.regl hT fun K hK => ?_
  simp only [wq, simprocAttr]
  refine hK _ ?_
  clear hK K
  try refine vthen_n ?_
  repeat refine VW.seq ?_
  refine VW.cond rfl (fun hc => by cases hc) (fun hc => ?_)
  refine VW.skip (vthen_n ?_)
  repeat refine VW.seq ?_
  refine VW.regl hT fun K hK => ?_
  simp only [wq, simprocAttr]
  refine hK _ ?_
  clear hK K
  try refine vthen_n ?_
  refine VW.ret ⟨.inl rfl, _, rfl, ?_⟩
  simp [bs32, bs_app]
end Go.Proofs.YtoeblmcibheldaaDoor.V.W
end
section
namespace Go.Proofs.YtoeblmcibheldaaDoor.V.W
open Go Go.RowKit Go.Proofs.YtoeblmcibheldaaDoor.V
theorem first_sp : ∀ (a b x y : List UInt8), (∀ c ∈ a, c ≠ 32) → (∀ c ∈ b, c ≠ 32) → a ++ 32 :: x = b ++ 32 :: y → a = b
 | [], [], _, _, _, _, _ => rfl
 | [], d :: b, x, y, _, hb, h => by
  injection h with h1 h2
  exact absurd h1.symm (hb d (by simp))
 | c :: a, [], x, y, ha, _, h => by
  injection h with h1 h2
  exact absurd h1 (ha c (by simp))
 | c :: a, d :: b, x, y, ha, hb, h => by
  injection h with h1 h2
  rw [h1, first_sp a b x y (fun e he => ha e (by simp [he])) (fun e he => hb e (by simp [he])) h2]
def jt (F : List (List UInt8)) (k : Nat) : List UInt8 := F.getD 0 [] ++ Lib.joinTail [32] ((F.drop 1).take (k - 1))
theorem jt_one (F : List (List UInt8)) : jt F 1 = F.getD 0 [] := by simp [jt, Lib.joinTail]
theorem jt_succ {F : List (List UInt8)} {k : Nat} (h0 : 1 ≤ k) (h : k < F.length) : jt F (k + 1) = jt F k ++ [32] ++ F.getD k [] := by
 obtain ⟨j, rfl⟩ : ∃ j, k = j + 1 := ⟨k - 1, by omega⟩
 simp only [jt, Nat.add_sub_cancel]
 rw [List.take_add_one, Lib.joinTail, List.map_append, List.flatten_append, List.getElem?_drop, Nat.add_comm 1 j, List.getElem?_eq_getElem h, List.getD_eq_getElem?_getD (i := j + 1), List.getElem?_eq_getElem h]
 simp [Lib.joinTail]
theorem jt_all {F : List (List UInt8)} (h : 2 ≤ F.length) : jt F F.length = joinF F ∧ ∃ r, joinF F = F.getD 0 [] ++ 32 :: r := by
 match F, h with
 | a :: b :: r, _ =>
  refine ⟨?_, ?_⟩
  ·simp only [jt, joinF, Lib.join_cons]
   simp [List.take_of_length_le]
  ·simp only [joinF, Lib.join_cons]
   simp [Lib.joinTail]
theorem jt_len {F : List (List UInt8)} (hf : ∀ i, (F.getD i []).length ≤ 600) : ∀ k, 1 ≤ k → k ≤ F.length → (jt F k).length ≤ 601 * k := by
 intro k
 induction k with
 | zero => intro h; omega
 | succ k ih =>
  intro h1 h2
  by_cases hk : k = 0
  ·subst hk
   rw [jt_one]
   have := hf 0
   omega
  ·rw [jt_succ (by omega) (by omega), List.length_append, List.length_append]
   have := ih (by omega) (by omega)
   have := hf k
   simp only [List.length_cons, List.length_nil]
   omega
def nl (F : List (List UInt8)) (k : Nat) : List Int := (List.range (k - 1)).map fun j => (pu (F.getD (j + 1) [])).1
theorem nl_succ {F : List (List UInt8)} {k : Nat} (h0 : 1 ≤ k) : nl F (k + 1) = nl F k ++ [(pu (F.getD k [])).1] := by
 obtain ⟨j, rfl⟩ : ∃ j, k = j + 1 := ⟨k - 1, by omega⟩
 simp only [nl, Nat.add_sub_cancel, List.range_succ, List.map_append, List.map_cons, List.map_nil]
theorem nl_len (F : List (List UInt8)) (k : Nat) : (nl F k).length = k - 1 := by simp [nl]
theorem nl_get {F : List (List UInt8)} (h1 : 2 ≤ F.length) (h2 : F.length ≤ 4) (j : Nat) (hj : j < 3) : (nl F F.length ++ [0, 0]).getD j 0 = numOf F j := by
 rcases (show F.length = 2 ∨ F.length = 3 ∨ F.length = 4 by omega) with e | e | e <;> rcases (show j = 0 ∨ j = 1 ∨ j = 2 by omega) with rfl | rfl | rfl <;> simp [nl, numOf, e, List.range_succ]
/-- the act of kind k fits the fields -/
def acc (F : List (List UInt8)) (k : Int) : Bool := actOk (k, numOf F 0, numOf F 1, numOf F 2) && decide (actText (k, numOf F 0, numOf F 1, numOf F 2) = joinF F)
theorem word_nosp (k : Int) : ∀ c ∈ word k, c ≠ 32 := by
 unfold word
 split
 ·decide
 split
 ·decide
 split <;> decide
theorem kind_word {k : Int} (h : k = 1 ∨ k = 2 ∨ k = 3 ∨ k = 4) : 1 + Lib.idxOfS actWds (bs (word k)) = k := by
 rcases h with rfl | rfl | rfl | rfl <;> kernel_rfl
theorem acc_kind {F : List (List UInt8)} (h2 : 2 ≤ F.length) (hs : ∀ c ∈ F.getD 0 [], c ≠ 32) {k : Int} (h : acc F k = true) : kindOf F = k := by
 rw [acc, Bool.and_eq_true, decide_eq_true_eq] at h
 obtain ⟨_, _, _, hk⟩ := actOk_iff h.1
 obtain ⟨_, r, hr⟩ := jt_all h2
 have h1 := h.2
 rw [hr] at h1
 have h1 : word k ++ 32 :: (Lib.itoa (numOf F 0) ++ ((if k ≤ 2 then 32 :: Lib.itoa (numOf F 1) else []) ++ (if k = 1 then 32 :: Lib.itoa (numOf F 2) else []))) = F.getD 0 [] ++ 32 :: r := by
  rw [← h1]
  simp [actText]
 rw [kindOf, ← first_sp _ _ _ _ (word_nosp k) hs h1]
 exact kind_word hk
theorem acc_pa {F : List (List UInt8)} : acc F (kindOf F) = paOk F := rfl
theorem pa_kind {F : List (List UInt8)} (h : paOk F = true) : kindOf F = 1 ∨ kindOf F = 2 ∨ kindOf F = 3 ∨ kindOf F = 4 := by
 rw [paOk, Bool.and_eq_true] at h
 exact (actOk_iff h.1).2.2.2
set_option maxRecDepth 20000 in
set_option maxHeartbeats 4000000 in
theorem specParse_vc (s : ByteArray) (hs : s.size ≤ 2000000) : VC Tryd.prog 15 [.v false .str s] (· = rAB (parseF s.data.toList)) := by
 refine VC.of_body hT Tryd.func15 rfl (by kernel_rfl) [(.cell 2 26, true, sAct), (.tmp 3, false, .bool)] (by kernel_rfl) ?_
 show VW _ _ ([.v false .str s, D, D, D, D, D, D, D, D, D, D, D, D, D, D, D, D, D, D, D, D, D, D, D, D, D, D, D, D, D, D, D, D, D, D, D, D, D, D, D, D, D, D, D, D, D, D, D, D, D, D, D, D, D, D, D, D, D, D, D, D, D, D, D, D, D, D, D, D, D, D, D, D, D, D, D, D, D, D, D, D, D, D, D, D, D, D, D, D]) _
 have hsp := (specSplit_vc s hs).fzt rfl
 have hpf : parseF s.data.toList = if (splitOk s.data.toList && (inB ((Lib.fields s.data.toList).length : Int) 2 4 && paOk (Lib.fields s.data.toList))) = true then (actOf (Lib.fields s.data.toList), true) else (zA, false) := rfl
 generalize parseF s.data.toList = R at hpf
 repeat refine VW.seq ?_
 refine VW.regl hT fun K hK => ?_
 simp only [wq, simprocAttr]
 refine hK _ ?_
 clear hK K
 try refine vthen_n ?_
 by_cases hok : splitOk s.data.toList = true
 case neg =>
  rw [show splitF s.data.toList = ([], false) from if_neg hok] at hsp
  rw [if_neg (by rw [Bool.not_eq_true] at hok; rw [hok]; simp)] at hpf
  subst hpf
  repeat refine VW.seq ?_
  refine VW.regl hT fun K hK => ?_
  simp only [wq, simprocAttr]
  refine vcall_of hsp ?_
  simp only [wq, simprocAttr]
  refine hK _ ?_
  clear hK K
  try refine vthen_n ?_
  repeat refine VW.seq ?_
  refine VW.regl hT fun K hK => ?_
  simp only [wq, simprocAttr]
  refine hK _ ?_
  clear hK K
  try refine vthen_n ?_
  repeat refine VW.seq ?_
  refine VW.cond rfl (fun hc => ?_) (fun hc => by cases hc)
  repeat refine VW.seq ?_
  refine VW.regl hT fun K hK => ?_
  simp only [wq, simprocAttr]
  refine hK _ ?_
  clear hK K
  try refine vthen_n ?_
  exact VW.ret ⟨.inl rfl, _, rfl, rfl⟩
 rw [show splitF s.data.toList = ((Lib.fields s.data.toList).map bs, true) from if_pos hok] at hsp
 rw [hok, Bool.true_and] at hpf
 have hfm := fun f (hf : f ∈ Lib.fields s.data.toList) => fields_in hf
 have hfn := fun f (hf : f ∈ Lib.fields s.data.toList) => (fields_mem hf).2
 have hsl : s.data.toList.length ≤ 600 := by
  have := hok
  simp only [splitOk, Bool.and_eq_true, decide_eq_true_eq] at this
  exact this.1
 generalize Lib.fields s.data.toList = F at *
 have hf6 : ∀ i, (F.getD i []).length ≤ 600 := fun i => by
  rw [List.getD_eq_getElem?_getD]
  cases h : F[i]? with
  | none => simp
  | some f =>
   have := hfm f (List.mem_of_getElem? h)
   simp only [Option.getD_some]
   omega
 have hsp0 : ∀ c ∈ F.getD 0 [], c ≠ 32 := fun c hc => by
  rw [List.getD_eq_getElem?_getD] at hc
  cases h : F[0]? with
  | none => rw [h] at hc; simp at hc
  | some f =>
   rw [h] at hc
   have := hfn f (List.mem_of_getElem? h) c hc
   rintro rfl
   exact absurd this (by decide)
 have hfs : ∀ i, (bs (F.getD i [])).size ≤ 2000000 := fun i => by
  have := hf6 i
  rw [bs_size]
  omega
 repeat refine VW.seq ?_
 refine VW.regl hT fun K hK => ?_
 simp only [wq, simprocAttr]
 refine vcall_of hsp ?_
 simp only [wq, simprocAttr]
 refine hK _ ?_
 clear hK K
 try refine vthen_n ?_
 repeat refine VW.seq ?_
 refine VW.regl hT fun K hK => ?_
 simp only [wq, simprocAttr]
 refine vcall_of (in_vc _ 2 4) ?_
 simp only [wq, simprocAttr]
 refine hK _ ?_
 clear hK K
 try refine vthen_n ?_
 repeat refine VW.seq ?_
 refine VW.cond rfl (fun hc => ?_) (fun hc => ?_)
 ·have hc : inB ((F.map bs).length : Int) 2 4 = false := (Bool.not_eq_true' _).mp hc
  rw [List.length_map] at hc
  rw [hc, Bool.false_and, if_neg (by decide)] at hpf
  subst hpf
  repeat refine VW.seq ?_
  refine VW.regl hT fun K hK => ?_
  simp only [wq, simprocAttr]
  refine hK _ ?_
  clear hK K
  try refine vthen_n ?_
  exact VW.ret ⟨.inl rfl, _, rfl, rfl⟩
 have hc : inB ((F.map bs).length : Int) 2 4 = true := (Bool.not_eq_false' _).mp hc
 rw [List.length_map] at hc
 rw [hc, Bool.true_and] at hpf
 have hl := inB_iff.1 hc
 have h24 : 2 ≤ F.length ∧ F.length ≤ 4 := by omega
 refine VW.skip (vthen_n ?_)
 have hGl : (F.map bs).length = F.length := List.length_map ..
 have hGg : ∀ i, (F.map bs).getD i ByteArray.empty = bs (F.getD i []) := fun i => getD_bs F i
 generalize F.map bs = G at *
 repeat refine VW.seq ?_
 refine VW.regl hT fun K hK => ?_
 simp only [wq, simprocAttr]
 refine ⟨decide_eq_true (show (0 : Int) < (G.length : Int) by omega), ?_⟩
 rw [hGg]
 refine hK _ ?_
 clear hK K
 try refine vthen_n ?_
 repeat refine VW.seq ?_
 refine VW.regl hT fun K hK => ?_
 simp only [wq, simprocAttr]
 refine hK _ ?_
 clear hK K
 try refine vthen_n ?_
 repeat refine VW.seq ?_
 refine VW.regl hT fun K hK => ?_
 simp only [wq, simprocAttr]
 refine hK _ ?_
 clear hK K
 try refine vthen_n ?_
 repeat refine VW.seq ?_
 refine VW.block ?_
 refine VW.loop (α := Nat) [(2, none), (4, none), (6, none), (7, some (3, .int .i64)), (8, none)] (fun k => [D, D, .root (.box 26) sAct .own zA, D, .v false sSt G, D, .v false .str (bs (jt F k)), .root (.val false) sI .own (nl F k), .v false (.int .i64) (k), D, D, D, D, D, D, D, D, D, D, D, D, D, D, D, D, D, D, D, D, D, D, D, D, D, D, D, D, D, D, D, D, D, D, D, D, D, D, D, D, D, D, D, D, D, D, D, D, D, D, D, D, D, D, D, D, D, D, D, D, D, D, D, D, D, D, D, D, D, D, D, D, D, D, D, D, D, D, D, D]) (fun k => 1 ≤ k ∧ k ≤ F.length) (fun k => F.length - k) ⟨1, ⟨by omega, by omega⟩, ?_⟩ fun k ⟨hk1, hk2⟩ => ?_
 ·simp only [wn, wq, simprocAttr]
  rw [jt_one]
  rfl
 have hjl := jt_len hf6 k hk1 hk2
 have hnl := nl_len F k
 repeat refine VW.seq ?_
 refine VW.regl hT fun K hK => ?_
 simp only [wq, simprocAttr]
 refine hK _ ?_
 clear hK K
 try refine vthen_n ?_
 repeat refine VW.seq ?_
 refine VW.cond rfl (fun hc => ?_) (fun hc => ?_)
 ·have hlt : k < F.length := by
   have : (k : Int) < (G.length : Int) := of_decide_eq_true hc
   omega
  have hfk := hf6 k
  refine VW.skip (vthen_n ?_)
  repeat refine VW.seq ?_
  refine VW.block ?_
  repeat refine VW.seq ?_
  refine VW.regl hT fun K hK => ?_
  simp only [wq, simprocAttr]
  refine ⟨decide_eq_true (by rw [bs_size]; show _ + (1 : Nat) ≤ _; omega), decide_eq_true ⟨Int.natCast_nonneg _, by show (k : Int) < (G.length : Int); omega⟩, ?_⟩
  rw [hGg, show (⟨#[32]⟩ : ByteArray) = bs [32] from rfl, bs_app]
  refine ⟨decide_eq_true (by rw [bs_size, bs_size, List.length_append]; simp only [List.length_cons, List.length_nil]; omega), ?_⟩
  rw [bs_app]
  refine hK _ ?_
  clear hK K
  try refine vthen_n ?_
  repeat refine VW.seq ?_
  refine VW.regl hT fun K hK => ?_
  simp only [wq, simprocAttr]
  refine ⟨decide_eq_true ⟨Int.natCast_nonneg _, by show (k : Int) < (G.length : Int); omega⟩, ?_⟩
  rw [hGg]
  refine vcall_of ((specUint_vc _ (hfs _))) ?_
  rw [bs_back]
  simp only [wq, simprocAttr]
  refine hK _ ?_
  clear hK K
  try refine vthen_n ?_
  repeat refine VW.seq ?_
  refine VW.regl hT fun K hK => ?_
  simp only [wq, simprocAttr]
  refine ⟨by simp [limOk]; omega, ?_⟩
  refine hK _ ?_
  clear hK K
  try refine vthen_n ?_
  show vthen _ _ _ .normal _
  refine vthen_n ?_
  repeat refine VW.seq ?_
  refine VW.regl hT fun K hK => ?_
  simp only [wq, simprocAttr]
  refine hK _ ?_
  clear hK K
  try refine vthen_n ?_
  refine ⟨k + 1, ⟨by omega, hlt⟩, ?_, by show F.length - (k + 1) < F.length - k; omega⟩
  simp only [wn, wq, simprocAttr]
  rw [wrap64 (by omega) (by omega), jt_succ hk1 hlt, nl_succ hk1]
  rfl
 have hge : k = F.length := by
  have : ¬ (k : Int) < (G.length : Int) := of_decide_eq_false hc
  omega
 subst hge
 rw [(jt_all h24.1).1]
 refine VW.exit ?_
 show vthen _ _ _ .normal _
 refine vthen_n ?_
 repeat refine VW.seq ?_
 refine VW.regl hT fun K hK => ?_
 simp only [wq, simprocAttr]
 refine ⟨by simp [limOk]; omega, ?_⟩
 refine hK _ ?_
 clear hK K
 try refine vthen_n ?_
 have hg := nl_get h24.1 h24.2
 have hnl2 : (nl F F.length ++ [0, 0]).length = F.length + 1 := by
  rw [List.length_append, nl_len]
  simp only [List.length_cons, List.length_nil]
  omega
 generalize nl F F.length ++ [0, 0] = ns at *
 repeat refine VW.seq ?_
 refine VW.regl hT fun K hK => ?_
 simp only [wq, simprocAttr]
 refine hK _ ?_
 clear hK K
 try refine vthen_n ?_
 repeat refine VW.seq ?_
 refine VW.block ?_
 refine VW.loop (α := Nat) [(2, none), (6, none), (7, none), (11, none)] (fun k => [D, D, .root (.box 26) sAct .own zA, D, D, D, .v false .str (bs (joinF F)), .root (.val false) sI .own ns, D, D, D, .v false (.int .i64) (k), D, D, D, D, D, D, D, D, D, D, D, D, D, D, D, D, D, D, D, D, D, D, D, D, D, D, D, D, D, D, D, D, D, D, D, D, D, D, D, D, D, D, D, D, D, D, D, D, D, D, D, D, D, D, D, D, D, D, D, D, D, D, D, D, D, D, D, D, D, D, D, D, D, D, D, D, D]) (fun k => 1 ≤ k ∧ k ≤ 5 ∧ ∀ j : Nat, 1 ≤ j → j < k → acc F (j : Int) = false) (fun k => 5 - k) ⟨1, ⟨by omega, by omega, fun j h1 h2 => by omega⟩, ?_⟩ fun k ⟨hk1, hk2, hka⟩ => ?_
 ·simp only [wn, wq, simprocAttr]
  try rfl
 repeat refine VW.seq ?_
 refine VW.regl hT fun K hK => ?_
 simp only [wq, simprocAttr]
 refine hK _ ?_
 clear hK K
 try refine vthen_n ?_
 repeat refine VW.seq ?_
 refine VW.cond rfl (fun hc => ?_) (fun hc => ?_)
 ·have hk4 : k ≤ 4 := by
   have : (k : Int) ≤ 4 := of_decide_eq_true hc
   omega
  refine VW.skip (vthen_n ?_)
  repeat refine VW.seq ?_
  refine VW.block ?_
  repeat refine VW.seq ?_
  refine VW.mixl hT hm 0 12 (by kernel_rfl) fun K hK => ?_
  simp only [wq, simprocAttr]
  repeat refine ⟨by first | exact decide_eq_true (show (0 : Int) < (ns.length : Int) by omega) | exact decide_eq_true (show (1 : Int) < (ns.length : Int) by omega) | exact decide_eq_true (show (2 : Int) < (ns.length : Int) by omega) | kernel_rfl, ?_⟩
  rw [hg 0 (by decide), hg 1 (by decide), hg 2 (by decide)]
  refine hK _ ?_
  clear hK K
  try refine vthen_n ?_
  have hac : acc F (k : Int) = (actOk ((k : Int), numOf F 0, numOf F 1, numOf F 2) && decide (actText ((k : Int), numOf F 0, numOf F 1, numOf F 2) = joinF F)) := rfl
  have next : acc F (k : Int) = false → ∀ j : Nat, 1 ≤ j → j < k + 1 → acc F (j : Int) = false := fun h j h1 h2 => by
   rcases Nat.lt_or_ge j k with h3 | h3
   ·exact hka j h1 h3
   ·rw [show j = k by omega]
    exact h
  repeat refine VW.seq ?_
  refine VW.regl hT fun K hK => ?_
  simp only [wq, simprocAttr]
  refine vcall_of (specFmtAct_vc ((k : Int), numOf F 0, numOf F 1, numOf F 2)) ?_
  by_cases ha : actOk ((k : Int), numOf F 0, numOf F 1, numOf F 2) = true
  case neg =>
   rw [show fmtAct ((k : Int), numOf F 0, numOf F 1, numOf F 2) = (bs [], false) from if_neg ha]
   simp only [wq, simprocAttr]
   refine hK _ ?_
   clear hK K
   try refine vthen_n ?_
   repeat refine VW.seq ?_
   refine VW.regl hT fun K hK => ?_
   simp only [wq, simprocAttr]
   refine hK _ ?_
   clear hK K
   try refine vthen_n ?_
   repeat refine VW.seq ?_
   refine VW.cond rfl (fun hc => by cases hc) (fun hc => ?_)
   refine VW.skip ?_
   show vthen _ _ _ .normal _
   refine vthen_n ?_
   repeat refine VW.seq ?_
   refine VW.regl hT fun K hK => ?_
   simp only [wq, simprocAttr]
   refine hK _ ?_
   clear hK K
   try refine vthen_n ?_
   refine ⟨k + 1, ⟨by omega, by omega, next (by rw [hac]; simp [ha])⟩, ?_, by show 5 - (k + 1) < 5 - k; omega⟩
   simp only [wn, wq, simprocAttr]
   rw [wrap64 (by omega) (by omega)]
   rfl
  rw [show fmtAct ((k : Int), numOf F 0, numOf F 1, numOf F 2) = (bs (actText ((k : Int), numOf F 0, numOf F 1, numOf F 2)), true) from if_pos ha]
  simp only [wq, simprocAttr]
  refine hK _ ?_
  clear hK K
  try refine vthen_n ?_
  repeat refine VW.seq ?_
  refine VW.regl hT fun K hK => ?_
  simp only [wq, simprocAttr]
  refine hK _ ?_
  clear hK K
  try refine vthen_n ?_
  repeat refine VW.seq ?_
  refine VW.cond rfl (fun hc => ?_) (fun hc => ?_)
  ·rw [bs_toList', bs_toList'] at hc
   have heq : actText ((k : Int), numOf F 0, numOf F 1, numOf F 2) = joinF F := eq_of_beq hc
   have hacc : acc F (k : Int) = true := by rw [hac, ha, decide_eq_true heq]; rfl
   have hkd := acc_kind h24.1 hsp0 hacc
   rw [if_pos (by rw [← acc_pa, hkd]; exact hacc), actOf, hkd] at hpf
   subst hpf
   repeat refine VW.seq ?_
   refine VW.regl hT fun K hK => ?_
   simp only [wq, simprocAttr]
   refine hK _ ?_
   clear hK K
   try refine vthen_n ?_
   exact VW.ret ⟨.inl rfl, _, rfl, rfl⟩
  rw [bs_toList', bs_toList'] at hc
  have hne : actText ((k : Int), numOf F 0, numOf F 1, numOf F 2) ≠ joinF F := by
   intro e
   rw [e] at hc
   simp at hc
  refine VW.skip ?_
  show vthen _ _ _ .normal _
  refine vthen_n ?_
  repeat refine VW.seq ?_
  refine VW.regl hT fun K hK => ?_
  simp only [wq, simprocAttr]
  refine hK _ ?_
  clear hK K
  try refine vthen_n ?_
  refine ⟨k + 1, ⟨by omega, by omega, next (by rw [hac, ha, decide_eq_false hne]; rfl)⟩, ?_, by show 5 - (k + 1) < 5 - k; omega⟩
  simp only [wn, wq, simprocAttr]
  rw [wrap64 (by omega) (by omega)]
  rfl
 have hk5 : k = 5 := by
  have : ¬ (k : Int) ≤ 4 := of_decide_eq_false hc
  omega
 subst hk5
 have hno : paOk F = false := by
  rw [← Bool.not_eq_true]
  intro h
  have hk := pa_kind h
  rw [← acc_pa] at h
  rcases hk with e | e | e | e <;> rw [e] at h
  ·exact absurd (hka 1 (by decide) (by decide)) (by rw [show ((1 : Nat) : Int) = 1 from rfl, h]; decide)
  ·exact absurd (hka 2 (by decide) (by decide)) (by rw [show ((2 : Nat) : Int) = 2 from rfl, h]; decide)
  ·exact absurd (hka 3 (by decide) (by decide)) (by rw [show ((3 : Nat) : Int) = 3 from rfl, h]; decide)
  ·exact absurd (hka 4 (by decide) (by decide)) (by rw [show ((4 : Nat) : Int) = 4 from rfl, h]; decide)
 rw [if_neg (by rw [hno]; decide)] at hpf
 subst hpf
 refine VW.exit ?_
 show vthen _ _ _ .normal _
 refine vthen_n ?_
 repeat refine VW.seq ?_
 refine VW.regl hT fun K hK => ?_
 simp only [wq, simprocAttr]
 refine hK _ ?_
 clear hK K
 try refine vthen_n ?_
 exact VW.ret ⟨.inl rfl, _, rfl, rfl⟩
end Go.Proofs.YtoeblmcibheldaaDoor.V.W
end
section
namespace Go.Proofs.YtoeblmcibheldaaDoor.V.W
open Go Go.RowKit Go.Proofs.YtoeblmcibheldaaDoor.V
set_option maxRecDepth 20000 in
theorem eqAct_vc (a : Ac) : VC Tryd.prog 17 [.v true sAct a, .v true sAct a] (· = .v false .bool true) := by
 obtain ⟨k, n, x, y⟩ := a
 refine VC.of_body hT Tryd.func17 rfl (by kernel_rfl) [(.tmp 4, false, .bool)] (by kernel_rfl) ?_
 show VW _ _ ([.v true sAct (k, n, x, y), .v true sAct (k, n, x, y), D, D, D, D, D, D, D, D, D, D, D, D, D, D, D, D, D, D, D, D, D, D, D]) _
 repeat refine VW.seq ?_
 refine VW.regl hT fun K hK => ?_
 simp only [wq, simprocAttr]
 refine hK _ ?_
 clear hK K
 try refine vthen_n ?_
 repeat refine VW.seq ?_
 refine VW.regl hT fun K hK => ?_
 simp only [wq, simprocAttr]
 refine hK _ ?_
 clear hK K
 try refine vthen_n ?_
 repeat refine VW.seq ?_
 refine VW.cond rfl (fun hc => ?_) (fun hc => ?_)
 ·simp at hc
 refine VW.skip (vthen_n ?_)
 repeat refine VW.seq ?_
 refine VW.regl hT fun K hK => ?_
 simp only [wq, simprocAttr]
 refine hK _ ?_
 clear hK K
 try refine vthen_n ?_
 repeat refine VW.seq ?_
 refine VW.cond rfl (fun hc => ?_) (fun hc => ?_)
 ·simp at hc
 refine VW.skip (vthen_n ?_)
 repeat refine VW.seq ?_
 refine VW.regl hT fun K hK => ?_
 simp only [wq, simprocAttr]
 refine hK _ ?_
 clear hK K
 try refine vthen_n ?_
 repeat refine VW.seq ?_
 refine VW.cond rfl (fun hc => ?_) (fun hc => ?_)
 ·simp at hc
 refine VW.skip (vthen_n ?_)
 repeat refine VW.seq ?_
 refine VW.regl hT fun K hK => ?_
 simp only [wq, simprocAttr]
 refine hK _ ?_
 clear hK K
 try refine vthen_n ?_
 repeat refine VW.seq ?_
 refine VW.cond rfl (fun hc => ?_) (fun hc => ?_)
 ·simp at hc
 refine VW.skip (vthen_n ?_)
 repeat refine VW.seq ?_
 refine VW.regl hT fun K hK => ?_
 simp only [wq, simprocAttr]
 refine hK _ ?_
 clear hK K
 try refine vthen_n ?_
 exact VW.ret ⟨.inl rfl, _, rfl, rfl⟩
set_option maxRecDepth 20000 in
theorem law_parseAct (s : ByteArray) : VC Tryd.prog 5 [.v false .str s] (· = .v false .bool true) := by
 refine VC.of_body hT Tryd.func5 rfl (by kernel_rfl) [(.tmp 2, false, .bool)] (by kernel_rfl) ?_
 show VW _ _ ([.v false .str s, D, D, D, D, D, D, D, D, D, D, D, D, D, D, D, D, D, D, D, D, D, D, D, D, D, D, D, D]) _
 repeat refine VW.seq ?_
 refine VW.regl hT fun K hK => ?_
 simp only [wq, simprocAttr]
 refine hK _ ?_
 clear hK K
 try refine vthen_n ?_
 repeat refine VW.seq ?_
 refine VW.regl hT fun K hK => ?_
 simp only [wq, simprocAttr]
 refine hK _ ?_
 clear hK K
 try refine vthen_n ?_
 repeat refine VW.seq ?_
 refine VW.cond rfl (fun hc => ?_) (fun hc => ?_)
 ·repeat refine VW.seq ?_
  refine VW.regl hT fun K hK => ?_
  simp only [wq, simprocAttr]
  refine hK _ ?_
  clear hK K
  try refine vthen_n ?_
  exact VW.ret ⟨.inl rfl, _, rfl, rfl⟩
 have hs : s.size ≤ 2000000 := by
  have : ¬ (s.size : Int) > 1048576 := of_decide_eq_false hc
  omega
 have h1 := parseAct_vc s hs
 have h2 := specParse_vc s hs
 generalize parseF s.data.toList = R at *
 obtain ⟨a, b⟩ := R
 refine VW.skip (vthen_n ?_)
 repeat refine VW.seq ?_
 refine VW.regl hT fun K hK => ?_
 simp only [wq, simprocAttr]
 refine vcall_of h2 ?_
 simp only [wq, simprocAttr]
 refine hK _ ?_
 clear hK K
 try refine vthen_n ?_
 repeat refine VW.seq ?_
 refine VW.regl hT fun K hK => ?_
 simp only [wq, simprocAttr]
 refine vcall_of h1 ?_
 simp only [wq, simprocAttr]
 refine hK _ ?_
 clear hK K
 try refine vthen_n ?_
 repeat refine VW.seq ?_
 refine VW.regl hT fun K hK => ?_
 simp only [wq, simprocAttr]
 refine vcall_of (eqAct_vc a) ?_
 simp only [wq, simprocAttr]
 refine hK _ ?_
 clear hK K
 try refine vthen_n ?_
 repeat refine VW.seq ?_
 refine VW.cond rfl (fun hc => ?_) (fun hc => ?_)
 ·cases b <;> cases hc
 refine VW.skip (vthen_n ?_)
 repeat refine VW.seq ?_
 refine VW.regl hT fun K hK => ?_
 simp only [wq, simprocAttr]
 refine hK _ ?_
 clear hK K
 try refine vthen_n ?_
 exact VW.ret ⟨.inl rfl, _, rfl, rfl⟩
end Go.Proofs.YtoeblmcibheldaaDoor.V.W
namespace Go.Proofs.YtoeblmcibheldaaDoor.V
open Go Go.RowKit
theorem fnExactParseAct_vc (s : ByteArray) (w0 : wfS Tryd.prog .str s) : VC Tryd.prog 5 [.v false .str s] (· = .v false .bool true) := W.law_parseAct s
end Go.Proofs.YtoeblmcibheldaaDoor.V
end

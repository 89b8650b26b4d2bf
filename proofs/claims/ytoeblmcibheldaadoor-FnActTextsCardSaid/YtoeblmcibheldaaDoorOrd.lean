/- What the rows' shared facts ask of the program alone. Written by ordgen.py (a program of this session's). No condition. -/
import Derived.Test.YtoeblmcibheldaaDoorRows
import Derived.WalkKit
import Derived.ProofKit
import Derived.OpenShut
namespace Go.Proofs.YtoeblmcibheldaaDoor.Ord
open Go.ChangeShapes Go.WideShapes Go.ChangeAt Go.RowKit
def ordS : List Char := ['7', 'f', '4', '8', '0', '5', '5', 'b', 'f', 'c', '3', '9', '1', 'c', 'f', '8', '6', 'a', '1', 'c', '2', '8', 'c', '2', 'f', '2', 'd', '5', '4', '5', '0', 'b', '8', '3', '5', 'c', '4', '6', 'c', '8', '0', '4', 'f', 'f', '3', 'e', '3', '5', 'd', 'd', '6', '3', 'c', 'f', '3', '6', 'f', '6', 'a', '8', '3', '7', '1', '7']
def ordR : List Char := ['a', 't', ' ', 'l', 'o', 'o', 'p', '.', 'e', 'x', 'a', 'm', 'p', 'l', 'e', '/', 'g', '0', '0', '9', '8', '6', '/', 'l', 'a', 'w', 's', '.', 'F', 'n', 'E', 'x', 'a', 'c', 't', 'F', 'o', 'r', 'm', 'a', 't', 'A', 'c', 't', ' ', 'l', 'o', 'o', 'p', '.', 'e', 'x', 'a', 'm', 'p', 'l', 'e', '/', 'g', '0', '0', '9', '8', '6', '/', 'l', 'a', 'w', 's', '.', 'F', 'n', 'E', 'x', 'a', 'c', 't', 'S', 'c', 'r', 'i', 'p', 't', 'T', 'e', 'x', 't', ' ', 'l', 'o', 'o', 'p', '.', 'e', 'x', 'a', 'm', 'p', 'l', 'e', '/', 'g', '0', '0', '9', '8', '6', '/', 'l', 'a', 'w', 's', '.', 'F', 'n', 'E', 'x', 'a', 'c', 't', 'P', 'a', 'r', 's', 'e', 'A', 'c', 't', ' ', 'l', 'o', 'o', 'p', '.', 'e', 'x', 'a', 'm', 'p', 'l', 'e', '/', 'g', '0', '0', '9', '8', '6', '/', 'l', 'a', 'w', 's', '.', 'F', 'n', 'A', 'c', 't', 'T', 'e', 'x', 't', 's']
theorem andT {a b : Bool} (h : a = true) (k : b = true) : (a && b) = true := by rw [h, k]; rfl
theorem ws_append : ∀ (w r : List Char), w.all (· != ' ') = true → wordsSigns (w ++ ' ' :: r) = w :: wordsSigns r
  | [], _, _ => rfl
  | c :: w, r, h => by
    rw [List.all_cons, Bool.and_eq_true] at h
    have hc : c ≠ ' ' := by have := h.1; simpa using this
    show wordsSigns (c :: (w ++ ' ' :: r)) = _
    conv => lhs; unfold wordsSigns
    split
    · rename_i e; cases e
    · rename_i e; cases e; exact absurd rfl hc
    · rename_i e; cases e; rw [ws_append w r h.2]
def ordered (P : Program) : Prop := P.initOrder.toList = "harness".toList ++ ' ' :: (ordS ++ ' ' :: ("cut".toList ++ ' ' :: ordR))
theorem words_cut {P : Program} (h : ordered P) : behindMainWord (wordsSigns P.initOrder.toList) = "cut".toList :: wordsSigns ordR := by
  rw [h, ws_append _ _ (by decide +kernel), ws_append _ _ (by decide +kernel), ws_append _ _ (by decide +kernel)]
  have e : (("harness".toList == "harness".toList || "harness".toList == "ownmain".toList) && isSumSigns ordS) = true := by decide +kernel
  exact (if_pos e : (if ((("harness".toList == "harness".toList || "harness".toList == "ownmain".toList) && isSumSigns ordS) = true) then "cut".toList :: wordsSigns ordR else "harness".toList :: ordS :: "cut".toList :: wordsSigns ordR) = "cut".toList :: wordsSigns ordR)
theorem sl_cut (l : List (List Char)) : stripLifts liftWords ("cut".toList :: l) = ([], "cut".toList :: l) := by rfl
theorem mayEnter_cut {P : Program} (h : ordered P) (h1 : P.laysLater = false) (h2 : P.bearsReflect = false) (h3 : P.doorFits [] = true) : P.mayEnter = true := by
  unfold Program.mayEnter
  rw [words_cut h]
  simp only [sl_cut, h1, h2, h3]
  rfl
theorem liftsFinal_cut {P : Program} (h : ordered P) : P.liftsFinal = false := by
  unfold Program.liftsFinal Program.headLifts
  rw [words_cut h]
  simp only [sl_cut]
  rfl
theorem make_cut {P : Program} (h : ordered P) : P.make = some .cut := by
  unfold Program.make
  rw [words_cut h]
  rfl

theorem ord0 : Tryd.pinned.checked.prog.initOrder = String.ofList ("harness".toList ++ ' ' :: (ordS ++ ' ' :: ("cut".toList ++ ' ' :: ordR))) := by kernel_rfl
theorem ord : ordered Tryd.pinned.checked.prog := by unfold ordered; rw [ord0, String.toList_ofList]
theorem l1 : Tryd.pinned.checked.prog.laysLater = false := by kernel_rfl
theorem l2 : Tryd.pinned.checked.prog.bearsReflect = false := by kernel_rfl
theorem l3 : Tryd.pinned.checked.prog.doorFits [] = true := by kernel_rfl
theorem c1 : laidOutB Tryd.pinned.checked.prog = true := by kernel_rfl
theorem c2 : mapsRowed Tryd.pinned.checked.prog = true := by kernel_rfl
theorem c6 : (Tryd.pinned.checked.prog.stops == []) = true := by kernel_rfl
theorem c8 : (Tryd.pinned.checked.prog.stopKnobs == []) = true := by kernel_rfl
theorem c24 : Tryd.pinned.checked.prog.stopsHeard = true := by kernel_rfl
theorem c25 : Tryd.pinned.checked.prog.mayEnter = true := mayEnter_cut ord l1 l2 l3
theorem c26 : Tryd.pinned.checked.prog.liftsFinal = false := liftsFinal_cut ord
theorem c27 : Tryd.pinned.checked.prog.make = some .cut := make_cut ord
end Go.Proofs.YtoeblmcibheldaaDoor.Ord

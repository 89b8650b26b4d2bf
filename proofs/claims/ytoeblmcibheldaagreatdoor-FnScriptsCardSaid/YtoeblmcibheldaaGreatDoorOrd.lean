/- What the rows' shared facts ask of the program alone. Written by ordgen.py (a program of this session's). No condition. -/
import Derived.Test.YtoeblmcibheldaaGreatDoorRows
import Derived.WalkKit
import Derived.ProofKit
import Derived.OpenShut
namespace Go.Proofs.YtoeblmcibheldaaGreatDoor.Ord
open Go.ChangeShapes Go.WideShapes Go.ChangeAt Go.RowKit
def ordS : List Char := ['b', '2', '9', 'c', '8', 'a', '6', '0', 'b', '8', 'e', '2', 'd', '4', '4', '3', 'e', '3', '5', '6', '0', 'a', '3', 'a', 'c', 'b', 'd', '6', '3', '9', '3', '5', '7', '2', '2', '3', 'c', '8', 'e', '5', '3', '2', '0', '9', '6', '1', '9', 'a', '8', '8', 'b', 'f', '3', 'f', '8', '1', '9', '5', '0', 'd', 'f', '5', 'd', '2']
def ordR : List Char := ['a', 't', ' ', 'l', 'o', 'o', 'p', '.', 'e', 'x', 'a', 'm', 'p', 'l', 'e', '/', 'g', '0', '0', '9', '8', '6', '/', 'l', 'a', 'w', 's', '.', 'F', 'n', 'R', 'e', 'p', 'o', 'r', 't', 's', ' ', 'l', 'o', 'o', 'p', '.', 'e', 'x', 'a', 'm', 'p', 'l', 'e', '/', 'g', '0', '0', '9', '8', '6', '/', 'l', 'a', 'w', 's', '.', 'F', 'n', 'E', 'x', 'a', 'c', 't', 'F', 'o', 'r', 'm', 'a', 't', 'F', 'a', 'b', 'r', 'i', 'c', ' ', 'l', 'o', 'o', 'p', '.', 'e', 'x', 'a', 'm', 'p', 'l', 'e', '/', 'g', '0', '0', '9', '8', '6', '/', 'l', 'a', 'w', 's', '.', 'F', 'n', 'S', 'c', 'r', 'i', 'p', 't', 's', ' ', 'l', 'o', 'o', 'p', '.', 'e', 'x', 'a', 'm', 'p', 'l', 'e', '/', 'g', '0', '0', '9', '8', '6', '/', 'l', 'a', 'w', 's', '.', 'F', 'n', 'E', 'x', 'a', 'c', 't', 'R', 'u', 'n', 'S', 'c', 'r', 'i', 'p', 't']
theorem andT {a b : Bool} (h : a = true) (k : b = true) : (a && b) = true := by rw [h, k]; rfl
theorem ws_append : ∀ (w r : List Char), w.all (· != ' ') = true → wordsSigns (w ++ ' ' :: r) = w :: wordsSigns r
  | [], _, _ => rfl
  | c :: w, r, h => by
    rw [List.all_cons, Bool.and_eq_true] at h
    have hc : c ≠ ' ' := by have := h.1; simpa using this
    show wordsSigns (c :: (w ++ ' ' :: r)) = _
    conv => lhs; unfold wordsSigns
    split
    · rename_i e; cases e
    · rename_i e; cases e; exact absurd rfl hc
    · rename_i e; cases e; rw [ws_append w r h.2]
def ordered (P : Program) : Prop := P.initOrder.toList = "harness".toList ++ ' ' :: (ordS ++ ' ' :: ("cut".toList ++ ' ' :: ordR))
theorem words_cut {P : Program} (h : ordered P) : behindMainWord (wordsSigns P.initOrder.toList) = "cut".toList :: wordsSigns ordR := by
  rw [h, ws_append _ _ (by decide +kernel), ws_append _ _ (by decide +kernel), ws_append _ _ (by decide +kernel)]
  have e : (("harness".toList == "harness".toList || "harness".toList == "ownmain".toList) && isSumSigns ordS) = true := by decide +kernel
  exact (if_pos e : (if ((("harness".toList == "harness".toList || "harness".toList == "ownmain".toList) && isSumSigns ordS) = true) then "cut".toList :: wordsSigns ordR else "harness".toList :: ordS :: "cut".toList :: wordsSigns ordR) = "cut".toList :: wordsSigns ordR)
theorem sl_cut (l : List (List Char)) : stripLifts liftWords ("cut".toList :: l) = ([], "cut".toList :: l) := by rfl
theorem mayEnter_cut {P : Program} (h : ordered P) (h1 : P.laysLater = false) (h2 : P.bearsReflect = false) (h3 : P.doorFits [] = true) : P.mayEnter = true := by
  unfold Program.mayEnter
  rw [words_cut h]
  simp only [sl_cut, h1, h2, h3]
  rfl
theorem liftsFinal_cut {P : Program} (h : ordered P) : P.liftsFinal = false := by
  unfold Program.liftsFinal Program.headLifts
  rw [words_cut h]
  simp only [sl_cut]
  rfl
theorem make_cut {P : Program} (h : ordered P) : P.make = some .cut := by
  unfold Program.make
  rw [words_cut h]
  rfl

theorem ord0 : Tryz.pinned.checked.prog.initOrder = String.ofList ("harness".toList ++ ' ' :: (ordS ++ ' ' :: ("cut".toList ++ ' ' :: ordR))) := by kernel_rfl
theorem ord : ordered Tryz.pinned.checked.prog := by unfold ordered; rw [ord0, String.toList_ofList]
theorem l1 : Tryz.pinned.checked.prog.laysLater = false := by kernel_rfl
theorem l2 : Tryz.pinned.checked.prog.bearsReflect = false := by kernel_rfl
theorem l3 : Tryz.pinned.checked.prog.doorFits [] = true := by kernel_rfl
theorem c1 : laidOutB Tryz.pinned.checked.prog = true := by kernel_rfl
theorem c2 : mapsRowed Tryz.pinned.checked.prog = true := by kernel_rfl
theorem c6 : (Tryz.pinned.checked.prog.stops == []) = true := by kernel_rfl
theorem c8 : (Tryz.pinned.checked.prog.stopKnobs == []) = true := by kernel_rfl
theorem c24 : Tryz.pinned.checked.prog.stopsHeard = true := by kernel_rfl
theorem c25 : Tryz.pinned.checked.prog.mayEnter = true := mayEnter_cut ord l1 l2 l3
theorem c26 : Tryz.pinned.checked.prog.liftsFinal = false := liftsFinal_cut ord
theorem c27 : Tryz.pinned.checked.prog.make = some .cut := make_cut ord
end Go.Proofs.YtoeblmcibheldaaGreatDoor.Ord

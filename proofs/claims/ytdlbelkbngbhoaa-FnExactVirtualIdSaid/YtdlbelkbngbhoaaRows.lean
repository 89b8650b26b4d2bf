/-
  No cell of these rows narrows 'for every input' (looked for: loops, veiled, ifaces, maps, wideKeys, modest, calm, conditions, laid).
  DERIVED. THE GIVEN ROWS OF THIS SEAT. 6 by the template 'for every input the law returns true; each argument reads behind the call as it read before'; 0 by the template 'total and deterministic' (their statements: YtdlbelkbngbhoaaTotals.lean).
  GIVEN WITH THE SEED: the statements are not yours to turn. If you find one false, say at which input.
  Laid BY PROGRAM, IN A SANDBOX (cutbox-rows.mjs): the forced cells as the released guide's own fill.sh prints them over the translation a8e187f66b61f960… (all of the seat's roots in one cut). By AI agents, Wed Nov 11 2026. No macro, syntax, notation, axiom, sorry.
-/
import Derived.Test.YtdlbelkbngbhoaaChecked
import GoSem.Claim
import GoSem.ClaimJoined
import GoSem.ClaimMapViews
import Derived.JoinedTies
import Derived.KernelRfl
namespace Go.Proofs.Ytdlbelkbngbhoaa
/- THE CELL 'sum', in the pinned program and in every row, IS THE sha256 OF THE DUMP (.gsa) THAT YtdlbelkbngbhoaaProg.lean LOADS. Nothing in Lean hashes anything: it is a label: what it is worth is what the hold of that sum in a sandbox is worth. -/
noncomputable def Try.pinned : Pinned := { name := "ytdlbelkbngbhoaa", sum := "a8e187f66b61f960e41e0080e3f2b1d258c3b1e2553b75c09ea9fbf461bf064e", checked := Try.checked }
namespace Rows
def none {H : Type} : Left H := { results := [], args := [] }

/-- 'laws.FnExactVirtualOk': WHATEVER THE INPUT: true; the input reads as it did. -/
def fnExactVirtualOkSpec : ChangeSpec := { name := "fnExactVirtualOk", fn := fun _ => fun
  | [d] => { results := [.lit (.bool true)], args := [d] }
  | _ => none }
def fnExactVirtualOkRow : OpenClaim := { program := "ytdlbelkbngbhoaa", sum := "a8e187f66b61f960e41e0080e3f2b1d258c3b1e2553b75c09ea9fbf461bf064e", func := "loop.example/g00986/laws.FnExactVirtualOk", spec := "fnExactVirtualOk", apart := false }
def FnExactVirtualOkSaid : Prop := fnExactVirtualOkRow.holds Try.pinned (OpenSpec.ofChange fnExactVirtualOkSpec)

/-- ITS FALSE NEIGHBOUR: 'it returns false'. Refute it at one input. -/
def fnExactVirtualOkWrong : ChangeSpec := { name := "fnExactVirtualOk", fn := fun _ => fun
  | [d] => { results := [.lit (.bool false)], args := [d] }
  | _ => none }
def FnExactVirtualOkWrongFalsely : Prop := fnExactVirtualOkRow.holds Try.pinned (OpenSpec.ofChange fnExactVirtualOkWrong)

/-- 'laws.FnExactVirtualId': WHATEVER THE INPUT: true; the input reads as it did. -/
def fnExactVirtualIdSpec : ChangeSpec := { name := "fnExactVirtualId", fn := fun _ => fun
  | [d1, d2, d3] => { results := [.lit (.bool true)], args := [d1, d2, d3] }
  | _ => none }
def fnExactVirtualIdRow : OpenClaim := { program := "ytdlbelkbngbhoaa", sum := "a8e187f66b61f960e41e0080e3f2b1d258c3b1e2553b75c09ea9fbf461bf064e", func := "loop.example/g00986/laws.FnExactVirtualId", spec := "fnExactVirtualId", apart := false }
def FnExactVirtualIdSaid : Prop := fnExactVirtualIdRow.holds Try.pinned (OpenSpec.ofChange fnExactVirtualIdSpec)

/-- ITS FALSE NEIGHBOUR: 'it returns false'. Refute it at one input. -/
def fnExactVirtualIdWrong : ChangeSpec := { name := "fnExactVirtualId", fn := fun _ => fun
  | [d1, d2, d3] => { results := [.lit (.bool false)], args := [d1, d2, d3] }
  | _ => none }
def FnExactVirtualIdWrongFalsely : Prop := fnExactVirtualIdRow.holds Try.pinned (OpenSpec.ofChange fnExactVirtualIdWrong)

/-- 'laws.FnExactActOk': WHATEVER THE INPUT: true; the input reads as it did. -/
def fnExactActOkSpec : ChangeSpec := { name := "fnExactActOk", fn := fun _ => fun
  | [d] => { results := [.lit (.bool true)], args := [d] }
  | _ => none }
def fnExactActOkRow : OpenClaim := { program := "ytdlbelkbngbhoaa", sum := "a8e187f66b61f960e41e0080e3f2b1d258c3b1e2553b75c09ea9fbf461bf064e", func := "loop.example/g00986/laws.FnExactActOk", spec := "fnExactActOk", apart := false }
def FnExactActOkSaid : Prop := fnExactActOkRow.holds Try.pinned (OpenSpec.ofChange fnExactActOkSpec)

/-- ITS FALSE NEIGHBOUR: 'it returns false'. Refute it at one input. -/
def fnExactActOkWrong : ChangeSpec := { name := "fnExactActOk", fn := fun _ => fun
  | [d] => { results := [.lit (.bool false)], args := [d] }
  | _ => none }
def FnExactActOkWrongFalsely : Prop := fnExactActOkRow.holds Try.pinned (OpenSpec.ofChange fnExactActOkWrong)

/-- 'laws.FnExactVirtualOwner': WHATEVER THE INPUT: true; the input reads as it did. -/
def fnExactVirtualOwnerSpec : ChangeSpec := { name := "fnExactVirtualOwner", fn := fun _ => fun
  | [d1, d2, d3] => { results := [.lit (.bool true)], args := [d1, d2, d3] }
  | _ => none }
def fnExactVirtualOwnerRow : OpenClaim := { program := "ytdlbelkbngbhoaa", sum := "a8e187f66b61f960e41e0080e3f2b1d258c3b1e2553b75c09ea9fbf461bf064e", func := "loop.example/g00986/laws.FnExactVirtualOwner", spec := "fnExactVirtualOwner", apart := false }
def FnExactVirtualOwnerSaid : Prop := fnExactVirtualOwnerRow.holds Try.pinned (OpenSpec.ofChange fnExactVirtualOwnerSpec)

/-- ITS FALSE NEIGHBOUR: 'it returns false'. Refute it at one input. -/
def fnExactVirtualOwnerWrong : ChangeSpec := { name := "fnExactVirtualOwner", fn := fun _ => fun
  | [d1, d2, d3] => { results := [.lit (.bool false)], args := [d1, d2, d3] }
  | _ => none }
def FnExactVirtualOwnerWrongFalsely : Prop := fnExactVirtualOwnerRow.holds Try.pinned (OpenSpec.ofChange fnExactVirtualOwnerWrong)

/-- 'laws.FnExactCountBridges': WHATEVER THE INPUT: true; the input reads as it did. -/
def fnExactCountBridgesSpec : ChangeSpec := { name := "fnExactCountBridges", fn := fun _ => fun
  | [d] => { results := [.lit (.bool true)], args := [d] }
  | _ => none }
def fnExactCountBridgesRow : OpenClaim := { program := "ytdlbelkbngbhoaa", sum := "a8e187f66b61f960e41e0080e3f2b1d258c3b1e2553b75c09ea9fbf461bf064e", func := "loop.example/g00986/laws.FnExactCountBridges", spec := "fnExactCountBridges", apart := false }
def FnExactCountBridgesSaid : Prop := fnExactCountBridgesRow.holds Try.pinned (OpenSpec.ofChange fnExactCountBridgesSpec)

/-- ITS FALSE NEIGHBOUR: 'it returns false'. Refute it at one input. -/
def fnExactCountBridgesWrong : ChangeSpec := { name := "fnExactCountBridges", fn := fun _ => fun
  | [d] => { results := [.lit (.bool false)], args := [d] }
  | _ => none }
def FnExactCountBridgesWrongFalsely : Prop := fnExactCountBridgesRow.holds Try.pinned (OpenSpec.ofChange fnExactCountBridgesWrong)

/-- 'laws.FnExactVirtualRoom': WHATEVER THE INPUT: true; the input reads as it did. -/
def fnExactVirtualRoomSpec : ChangeSpec := { name := "fnExactVirtualRoom", fn := fun _ => fun
  | [d1, d2, d3] => { results := [.lit (.bool true)], args := [d1, d2, d3] }
  | _ => none }
def fnExactVirtualRoomRow : OpenClaim := { program := "ytdlbelkbngbhoaa", sum := "a8e187f66b61f960e41e0080e3f2b1d258c3b1e2553b75c09ea9fbf461bf064e", func := "loop.example/g00986/laws.FnExactVirtualRoom", spec := "fnExactVirtualRoom", apart := false }
def FnExactVirtualRoomSaid : Prop := fnExactVirtualRoomRow.holds Try.pinned (OpenSpec.ofChange fnExactVirtualRoomSpec)

/-- ITS FALSE NEIGHBOUR: 'it returns false'. Refute it at one input. -/
def fnExactVirtualRoomWrong : ChangeSpec := { name := "fnExactVirtualRoom", fn := fun _ => fun
  | [d1, d2, d3] => { results := [.lit (.bool false)], args := [d1, d2, d3] }
  | _ => none }
def FnExactVirtualRoomWrongFalsely : Prop := fnExactVirtualRoomRow.holds Try.pinned (OpenSpec.ofChange fnExactVirtualRoomWrong)

/- THE SECOND FORM. 'bulk': how many values and letters a reading holds, each counted each time it is reached (what is shared counts as often as it is met; a slice's spare places count too). A statement '..UptoSaid' is the law's where the arguments, and the package variables that the reading takes, are together of bulk at most 1048576: NARROWER than '..Said'. Prove '..Said' where nothing that the law and all that it calls make is longer than what came in: it says more and counts as full. Else prove '..UptoSaid'. A law counts once. -/
mutual
def uptoBulk {H : Type} : DataW H → Nat
  | .lit (.string bytes) => bytes.length + 1
  | .lit _ => 1
  | .nil => 1
  | .ptr d => uptoBulk d + 1
  | .slice elems spare => uptoBulkAll elems + uptoBulkAll spare + 1
  | .agg parts => uptoBulkAll parts + 1
  | .iface _ d => uptoBulk d + 1
  | .map entries => uptoBulkEntries entries + 1
  | .held _ => 1
def uptoBulkAll {H : Type} : List (DataW H) → Nat
  | [] => 0
  | d :: r => uptoBulk d + uptoBulkAll r
def uptoBulkEntries {H : Type} : List (Lit × DataW H) → Nat
  | [] => 0
  | x :: r => uptoBulkEntry x + uptoBulkEntries r
def uptoBulkEntry {H : Type} : Lit × DataW H → Nat
  | (.string bytes, d) => bytes.length + uptoBulk d + 1
  | (_, d) => uptoBulk d + 1
 end
def uptoSmall : (H : Type) → List (DataW H) → Bool := fun _ ds => decide (uptoBulkAll ds ≤ 1048576)
def OpenSpec.upto (s : _root_.Go.ChangeSpec) : _root_.Go.OpenSpec := { _root_.Go.OpenSpec.ofChange s with cond := some uptoSmall }

/-- 'laws.FnExactVirtualOk', WHERE WHAT IT READS IS OF BULK AT MOST 1048576: true; the input reads as it did. -/
def fnExactVirtualOkUptoRow : OpenClaim := { program := "ytdlbelkbngbhoaa", sum := "a8e187f66b61f960e41e0080e3f2b1d258c3b1e2553b75c09ea9fbf461bf064e", func := "loop.example/g00986/laws.FnExactVirtualOk", spec := "fnExactVirtualOk", apart := false, narrowed := true }
def FnExactVirtualOkUptoSaid : Prop := fnExactVirtualOkUptoRow.holds Try.pinned (OpenSpec.upto fnExactVirtualOkSpec)

/-- 'laws.FnExactVirtualId', WHERE WHAT IT READS IS OF BULK AT MOST 1048576: true; the input reads as it did. -/
def fnExactVirtualIdUptoRow : OpenClaim := { program := "ytdlbelkbngbhoaa", sum := "a8e187f66b61f960e41e0080e3f2b1d258c3b1e2553b75c09ea9fbf461bf064e", func := "loop.example/g00986/laws.FnExactVirtualId", spec := "fnExactVirtualId", apart := false, narrowed := true }
def FnExactVirtualIdUptoSaid : Prop := fnExactVirtualIdUptoRow.holds Try.pinned (OpenSpec.upto fnExactVirtualIdSpec)

/-- 'laws.FnExactActOk', WHERE WHAT IT READS IS OF BULK AT MOST 1048576: true; the input reads as it did. -/
def fnExactActOkUptoRow : OpenClaim := { program := "ytdlbelkbngbhoaa", sum := "a8e187f66b61f960e41e0080e3f2b1d258c3b1e2553b75c09ea9fbf461bf064e", func := "loop.example/g00986/laws.FnExactActOk", spec := "fnExactActOk", apart := false, narrowed := true }
def FnExactActOkUptoSaid : Prop := fnExactActOkUptoRow.holds Try.pinned (OpenSpec.upto fnExactActOkSpec)

/-- 'laws.FnExactVirtualOwner', WHERE WHAT IT READS IS OF BULK AT MOST 1048576: true; the input reads as it did. -/
def fnExactVirtualOwnerUptoRow : OpenClaim := { program := "ytdlbelkbngbhoaa", sum := "a8e187f66b61f960e41e0080e3f2b1d258c3b1e2553b75c09ea9fbf461bf064e", func := "loop.example/g00986/laws.FnExactVirtualOwner", spec := "fnExactVirtualOwner", apart := false, narrowed := true }
def FnExactVirtualOwnerUptoSaid : Prop := fnExactVirtualOwnerUptoRow.holds Try.pinned (OpenSpec.upto fnExactVirtualOwnerSpec)

/-- 'laws.FnExactCountBridges', WHERE WHAT IT READS IS OF BULK AT MOST 1048576: true; the input reads as it did. -/
def fnExactCountBridgesUptoRow : OpenClaim := { program := "ytdlbelkbngbhoaa", sum := "a8e187f66b61f960e41e0080e3f2b1d258c3b1e2553b75c09ea9fbf461bf064e", func := "loop.example/g00986/laws.FnExactCountBridges", spec := "fnExactCountBridges", apart := false, narrowed := true }
def FnExactCountBridgesUptoSaid : Prop := fnExactCountBridgesUptoRow.holds Try.pinned (OpenSpec.upto fnExactCountBridgesSpec)

/-- 'laws.FnExactVirtualRoom', WHERE WHAT IT READS IS OF BULK AT MOST 1048576: true; the input reads as it did. -/
def fnExactVirtualRoomUptoRow : OpenClaim := { program := "ytdlbelkbngbhoaa", sum := "a8e187f66b61f960e41e0080e3f2b1d258c3b1e2553b75c09ea9fbf461bf064e", func := "loop.example/g00986/laws.FnExactVirtualRoom", spec := "fnExactVirtualRoom", apart := false, narrowed := true }
def FnExactVirtualRoomUptoSaid : Prop := fnExactVirtualRoomUptoRow.holds Try.pinned (OpenSpec.upto fnExactVirtualRoomSpec)

end Rows
end Go.Proofs.Ytdlbelkbngbhoaa

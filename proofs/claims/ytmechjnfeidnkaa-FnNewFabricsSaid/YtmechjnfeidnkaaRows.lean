/-
  No cell of these rows narrows 'for every input' (looked for: loops, veiled, ifaces, maps, wideKeys, modest, calm, conditions, laid).
  DERIVED. THE GIVEN ROWS OF THIS SEAT. 3 by the template 'for every input the law returns true; each argument reads behind the call as it read before'; 0 by the template 'total and deterministic' (their statements: YtmechjnfeidnkaaTotals.lean).
  GIVEN WITH THE SEED: the statements are not yours to turn. If you find one false, say at which input.
  Laid BY PROGRAM, IN A SANDBOX (cutbox-rows.mjs): the forced cells as the released guide's own fill.sh prints them over the translation c6511ca6e5a76a04… (all of the seat's roots in one cut). By AI agents, Wed Nov 11 2026. No macro, syntax, notation, axiom, sorry.
-/
import Derived.Test.YtmechjnfeidnkaaChecked
import GoSem.Claim
import GoSem.ClaimJoined
import GoSem.ClaimMapViews
import Derived.JoinedTies
import Derived.KernelRfl
namespace Go.Proofs.Ytmechjnfeidnkaa
/- THE CELL 'sum', in the pinned program and in every row, IS THE sha256 OF THE DUMP (.gsa) THAT YtmechjnfeidnkaaProg.lean LOADS. Nothing in Lean hashes anything: it is a label: what it is worth is what the hold of that sum in a sandbox is worth. -/
noncomputable def Try.pinned : Pinned := { name := "ytmechjnfeidnkaa", sum := "c6511ca6e5a76a04abb03dc99d7a5d26aace802f6be90426b381c6738dbfb2aa", checked := Try.checked }
namespace Rows
def none {H : Type} : Left H := { results := [], args := [] }

/-- 'laws.FnNewFabrics': WHATEVER THE INPUT: true; the input reads as it did. -/
def fnNewFabricsSpec : ChangeSpec := { name := "fnNewFabrics", fn := fun _ => fun
  | [d] => { results := [.lit (.bool true)], args := [d] }
  | _ => none }
def fnNewFabricsRow : OpenClaim := { program := "ytmechjnfeidnkaa", sum := "c6511ca6e5a76a04abb03dc99d7a5d26aace802f6be90426b381c6738dbfb2aa", func := "loop.example/g00986/laws.FnNewFabrics", spec := "fnNewFabrics", unfollowed := true, recurses := true, apart := false }
def FnNewFabricsSaid : Prop := fnNewFabricsRow.holds Try.pinned (OpenSpec.ofChange fnNewFabricsSpec)

/-- ITS FALSE NEIGHBOUR: 'it returns false'. Refute it at one input. -/
def fnNewFabricsWrong : ChangeSpec := { name := "fnNewFabrics", fn := fun _ => fun
  | [d] => { results := [.lit (.bool false)], args := [d] }
  | _ => none }
def FnNewFabricsWrongFalsely : Prop := fnNewFabricsRow.holds Try.pinned (OpenSpec.ofChange fnNewFabricsWrong)

/-- 'laws.FnExactNewFabric': WHATEVER THE INPUT: true; the input reads as it did. -/
def fnExactNewFabricSpec : ChangeSpec := { name := "fnExactNewFabric", fn := fun _ => fun
  | [d1, d2] => { results := [.lit (.bool true)], args := [d1, d2] }
  | _ => none }
def fnExactNewFabricRow : OpenClaim := { program := "ytmechjnfeidnkaa", sum := "c6511ca6e5a76a04abb03dc99d7a5d26aace802f6be90426b381c6738dbfb2aa", func := "loop.example/g00986/laws.FnExactNewFabric", spec := "fnExactNewFabric", unfollowed := true, recurses := true, apart := false }
def FnExactNewFabricSaid : Prop := fnExactNewFabricRow.holds Try.pinned (OpenSpec.ofChange fnExactNewFabricSpec)

/-- ITS FALSE NEIGHBOUR: 'it returns false'. Refute it at one input. -/
def fnExactNewFabricWrong : ChangeSpec := { name := "fnExactNewFabric", fn := fun _ => fun
  | [d1, d2] => { results := [.lit (.bool false)], args := [d1, d2] }
  | _ => none }
def FnExactNewFabricWrongFalsely : Prop := fnExactNewFabricRow.holds Try.pinned (OpenSpec.ofChange fnExactNewFabricWrong)

/-- 'laws.FnExactFabricOk': WHATEVER THE INPUT: true; the input reads as it did. -/
def fnExactFabricOkSpec : ChangeSpec := { name := "fnExactFabricOk", fn := fun _ => fun
  | [d] => { results := [.lit (.bool true)], args := [d] }
  | _ => none }
def fnExactFabricOkRow : OpenClaim := { program := "ytmechjnfeidnkaa", sum := "c6511ca6e5a76a04abb03dc99d7a5d26aace802f6be90426b381c6738dbfb2aa", func := "loop.example/g00986/laws.FnExactFabricOk", spec := "fnExactFabricOk", unfollowed := true, recurses := true, apart := false }
def FnExactFabricOkSaid : Prop := fnExactFabricOkRow.holds Try.pinned (OpenSpec.ofChange fnExactFabricOkSpec)

/-- ITS FALSE NEIGHBOUR: 'it returns false'. Refute it at one input. -/
def fnExactFabricOkWrong : ChangeSpec := { name := "fnExactFabricOk", fn := fun _ => fun
  | [d] => { results := [.lit (.bool false)], args := [d] }
  | _ => none }
def FnExactFabricOkWrongFalsely : Prop := fnExactFabricOkRow.holds Try.pinned (OpenSpec.ofChange fnExactFabricOkWrong)

/- THE SECOND FORM. 'bulk': how many values and letters a reading holds, each counted each time it is reached (what is shared counts as often as it is met; a slice's spare places count too). A statement '..UptoSaid' is the law's where the arguments, and the package variables that the reading takes, are together of bulk at most 1048576: NARROWER than '..Said'. Prove '..Said' where nothing that the law and all that it calls make is longer than what came in: it says more and counts as full. Else prove '..UptoSaid'. A law counts once. -/
mutual
def uptoBulk {H : Type} : DataW H → Nat
  | .lit (.string bytes) => bytes.length + 1
  | .lit _ => 1
  | .nil => 1
  | .ptr d => uptoBulk d + 1
  | .slice elems spare => uptoBulkAll elems + uptoBulkAll spare + 1
  | .agg parts => uptoBulkAll parts + 1
  | .iface _ d => uptoBulk d + 1
  | .map entries => uptoBulkEntries entries + 1
  | .held _ => 1
def uptoBulkAll {H : Type} : List (DataW H) → Nat
  | [] => 0
  | d :: r => uptoBulk d + uptoBulkAll r
def uptoBulkEntries {H : Type} : List (Lit × DataW H) → Nat
  | [] => 0
  | x :: r => uptoBulkEntry x + uptoBulkEntries r
def uptoBulkEntry {H : Type} : Lit × DataW H → Nat
  | (.string bytes, d) => bytes.length + uptoBulk d + 1
  | (_, d) => uptoBulk d + 1
 end
def uptoSmall : (H : Type) → List (DataW H) → Bool := fun _ ds => decide (uptoBulkAll ds ≤ 1048576)
def OpenSpec.upto (s : _root_.Go.ChangeSpec) : _root_.Go.OpenSpec := { _root_.Go.OpenSpec.ofChange s with cond := some uptoSmall }

/-- 'laws.FnNewFabrics', WHERE WHAT IT READS IS OF BULK AT MOST 1048576: true; the input reads as it did. -/
def fnNewFabricsUptoRow : OpenClaim := { program := "ytmechjnfeidnkaa", sum := "c6511ca6e5a76a04abb03dc99d7a5d26aace802f6be90426b381c6738dbfb2aa", func := "loop.example/g00986/laws.FnNewFabrics", spec := "fnNewFabrics", unfollowed := true, recurses := true, apart := false, narrowed := true }
def FnNewFabricsUptoSaid : Prop := fnNewFabricsUptoRow.holds Try.pinned (OpenSpec.upto fnNewFabricsSpec)

/-- 'laws.FnExactNewFabric', WHERE WHAT IT READS IS OF BULK AT MOST 1048576: true; the input reads as it did. -/
def fnExactNewFabricUptoRow : OpenClaim := { program := "ytmechjnfeidnkaa", sum := "c6511ca6e5a76a04abb03dc99d7a5d26aace802f6be90426b381c6738dbfb2aa", func := "loop.example/g00986/laws.FnExactNewFabric", spec := "fnExactNewFabric", unfollowed := true, recurses := true, apart := false, narrowed := true }
def FnExactNewFabricUptoSaid : Prop := fnExactNewFabricUptoRow.holds Try.pinned (OpenSpec.upto fnExactNewFabricSpec)

/-- 'laws.FnExactFabricOk', WHERE WHAT IT READS IS OF BULK AT MOST 1048576: true; the input reads as it did. -/
def fnExactFabricOkUptoRow : OpenClaim := { program := "ytmechjnfeidnkaa", sum := "c6511ca6e5a76a04abb03dc99d7a5d26aace802f6be90426b381c6738dbfb2aa", func := "loop.example/g00986/laws.FnExactFabricOk", spec := "fnExactFabricOk", unfollowed := true, recurses := true, apart := false, narrowed := true }
def FnExactFabricOkUptoSaid : Prop := fnExactFabricOkUptoRow.holds Try.pinned (OpenSpec.upto fnExactFabricOkSpec)

end Rows
end Go.Proofs.Ytmechjnfeidnkaa

/-
  No cell of these rows narrows 'for every input' (looked for: loops, veiled, ifaces, maps, wideKeys, modest, calm, conditions, laid).
  DERIVED. THE GIVEN ROWS OF THIS SEAT. 10 by the template 'for every input the law returns true; each argument reads behind the call as it read before'; 0 by the template 'total and deterministic' (their statements: YtmechjnfeidnkaaGreatTotals.lean).
  GIVEN WITH THE SEED: the statements are not yours to turn. If you find one false, say at which input.
  Laid BY PROGRAM, IN A SANDBOX (cutbox-rows.mjs): the forced cells as the released guide's own fill.sh prints them over the translation b2ccc51c3fbfd7c5… (all of the seat's roots in one cut). By AI agents, Wed Nov 11 2026. No macro, syntax, notation, axiom, sorry.
-/
import Derived.Test.YtmechjnfeidnkaaGreatChecked
import GoSem.Claim
import GoSem.ClaimJoined
import GoSem.ClaimMapViews
import Derived.JoinedTies
import Derived.KernelRfl
namespace Go.Proofs.YtmechjnfeidnkaaGreat
/- THE CELL 'sum', in the pinned program and in every row, IS THE sha256 OF THE DUMP (.gsa) THAT YtmechjnfeidnkaaGreatProg.lean LOADS. Nothing in Lean hashes anything: it is a label: what it is worth is what the hold of that sum in a sandbox is worth. -/
noncomputable def Tryz.pinned : Pinned := { name := "ytmechjnfeidnkaagreat", sum := "b2ccc51c3fbfd7c5efc2d1c3b7cb22b1d2f33e9b2507632b21b9ca1750b43e07", checked := Tryz.checked }
namespace Rows
def none {H : Type} : Left H := { results := [], args := [] }

/-- 'laws.FnStores': WHATEVER THE INPUT: true; the input reads as it did. -/
def fnStoresSpec : ChangeSpec := { name := "fnStores", fn := fun _ => fun
  | [d] => { results := [.lit (.bool true)], args := [d] }
  | _ => none }
def fnStoresRow : OpenClaim := { program := "ytmechjnfeidnkaagreat", sum := "b2ccc51c3fbfd7c5efc2d1c3b7cb22b1d2f33e9b2507632b21b9ca1750b43e07", func := "loop.example/g00986/laws.FnStores", spec := "fnStores", unfollowed := true, recurses := true, apart := false }
def FnStoresSaid : Prop := fnStoresRow.holds Tryz.pinned (OpenSpec.ofChange fnStoresSpec)

/-- ITS FALSE NEIGHBOUR: 'it returns false'. Refute it at one input. -/
def fnStoresWrong : ChangeSpec := { name := "fnStores", fn := fun _ => fun
  | [d] => { results := [.lit (.bool false)], args := [d] }
  | _ => none }
def FnStoresWrongFalsely : Prop := fnStoresRow.holds Tryz.pinned (OpenSpec.ofChange fnStoresWrong)

/-- 'laws.FnScenarios': WHATEVER THE INPUT: true; the input reads as it did. -/
def fnScenariosSpec : ChangeSpec := { name := "fnScenarios", fn := fun _ => fun
  | [d] => { results := [.lit (.bool true)], args := [d] }
  | _ => none }
def fnScenariosRow : OpenClaim := { program := "ytmechjnfeidnkaagreat", sum := "b2ccc51c3fbfd7c5efc2d1c3b7cb22b1d2f33e9b2507632b21b9ca1750b43e07", func := "loop.example/g00986/laws.FnScenarios", spec := "fnScenarios", unfollowed := true, recurses := true, apart := false }
def FnScenariosSaid : Prop := fnScenariosRow.holds Tryz.pinned (OpenSpec.ofChange fnScenariosSpec)

/-- ITS FALSE NEIGHBOUR: 'it returns false'. Refute it at one input. -/
def fnScenariosWrong : ChangeSpec := { name := "fnScenarios", fn := fun _ => fun
  | [d] => { results := [.lit (.bool false)], args := [d] }
  | _ => none }
def FnScenariosWrongFalsely : Prop := fnScenariosRow.holds Tryz.pinned (OpenSpec.ofChange fnScenariosWrong)

/-- 'laws.FnReplays': WHATEVER THE INPUT: true; the input reads as it did. -/
def fnReplaysSpec : ChangeSpec := { name := "fnReplays", fn := fun _ => fun
  | [d] => { results := [.lit (.bool true)], args := [d] }
  | _ => none }
def fnReplaysRow : OpenClaim := { program := "ytmechjnfeidnkaagreat", sum := "b2ccc51c3fbfd7c5efc2d1c3b7cb22b1d2f33e9b2507632b21b9ca1750b43e07", func := "loop.example/g00986/laws.FnReplays", spec := "fnReplays", unfollowed := true, recurses := true, apart := false }
def FnReplaysSaid : Prop := fnReplaysRow.holds Tryz.pinned (OpenSpec.ofChange fnReplaysSpec)

/-- ITS FALSE NEIGHBOUR: 'it returns false'. Refute it at one input. -/
def fnReplaysWrong : ChangeSpec := { name := "fnReplays", fn := fun _ => fun
  | [d] => { results := [.lit (.bool false)], args := [d] }
  | _ => none }
def FnReplaysWrongFalsely : Prop := fnReplaysRow.holds Tryz.pinned (OpenSpec.ofChange fnReplaysWrong)

/-- 'laws.FnActParts': WHATEVER THE INPUT: true; the input reads as it did. -/
def fnActPartsSpec : ChangeSpec := { name := "fnActParts", fn := fun _ => fun
  | [d] => { results := [.lit (.bool true)], args := [d] }
  | _ => none }
def fnActPartsRow : OpenClaim := { program := "ytmechjnfeidnkaagreat", sum := "b2ccc51c3fbfd7c5efc2d1c3b7cb22b1d2f33e9b2507632b21b9ca1750b43e07", func := "loop.example/g00986/laws.FnActParts", spec := "fnActParts", unfollowed := true, recurses := true, apart := false }
def FnActPartsSaid : Prop := fnActPartsRow.holds Tryz.pinned (OpenSpec.ofChange fnActPartsSpec)

/-- ITS FALSE NEIGHBOUR: 'it returns false'. Refute it at one input. -/
def fnActPartsWrong : ChangeSpec := { name := "fnActParts", fn := fun _ => fun
  | [d] => { results := [.lit (.bool false)], args := [d] }
  | _ => none }
def FnActPartsWrongFalsely : Prop := fnActPartsRow.holds Tryz.pinned (OpenSpec.ofChange fnActPartsWrong)

/-- 'laws.FnExactTargetOf': WHATEVER THE INPUT: true; the input reads as it did. -/
def fnExactTargetOfSpec : ChangeSpec := { name := "fnExactTargetOf", fn := fun _ => fun
  | [d1, d2, d3, d4] => { results := [.lit (.bool true)], args := [d1, d2, d3, d4] }
  | _ => none }
def fnExactTargetOfRow : OpenClaim := { program := "ytmechjnfeidnkaagreat", sum := "b2ccc51c3fbfd7c5efc2d1c3b7cb22b1d2f33e9b2507632b21b9ca1750b43e07", func := "loop.example/g00986/laws.FnExactTargetOf", spec := "fnExactTargetOf", unfollowed := true, recurses := true, apart := false }
def FnExactTargetOfSaid : Prop := fnExactTargetOfRow.holds Tryz.pinned (OpenSpec.ofChange fnExactTargetOfSpec)

/-- ITS FALSE NEIGHBOUR: 'it returns false'. Refute it at one input. -/
def fnExactTargetOfWrong : ChangeSpec := { name := "fnExactTargetOf", fn := fun _ => fun
  | [d1, d2, d3, d4] => { results := [.lit (.bool false)], args := [d1, d2, d3, d4] }
  | _ => none }
def FnExactTargetOfWrongFalsely : Prop := fnExactTargetOfRow.holds Tryz.pinned (OpenSpec.ofChange fnExactTargetOfWrong)

/-- 'laws.FnExactLoadWords': WHATEVER THE INPUT: true; the input reads as it did. -/
def fnExactLoadWordsSpec : ChangeSpec := { name := "fnExactLoadWords", fn := fun _ => fun
  | [d1, d2, d3, d4] => { results := [.lit (.bool true)], args := [d1, d2, d3, d4] }
  | _ => none }
def fnExactLoadWordsRow : OpenClaim := { program := "ytmechjnfeidnkaagreat", sum := "b2ccc51c3fbfd7c5efc2d1c3b7cb22b1d2f33e9b2507632b21b9ca1750b43e07", func := "loop.example/g00986/laws.FnExactLoadWords", spec := "fnExactLoadWords", unfollowed := true, recurses := true, apart := false }
def FnExactLoadWordsSaid : Prop := fnExactLoadWordsRow.holds Tryz.pinned (OpenSpec.ofChange fnExactLoadWordsSpec)

/-- ITS FALSE NEIGHBOUR: 'it returns false'. Refute it at one input. -/
def fnExactLoadWordsWrong : ChangeSpec := { name := "fnExactLoadWords", fn := fun _ => fun
  | [d1, d2, d3, d4] => { results := [.lit (.bool false)], args := [d1, d2, d3, d4] }
  | _ => none }
def FnExactLoadWordsWrongFalsely : Prop := fnExactLoadWordsRow.holds Tryz.pinned (OpenSpec.ofChange fnExactLoadWordsWrong)

/-- 'laws.FnExactStoreWords': WHATEVER THE INPUT: true; the input reads as it did. -/
def fnExactStoreWordsSpec : ChangeSpec := { name := "fnExactStoreWords", fn := fun _ => fun
  | [d1, d2, d3, d4] => { results := [.lit (.bool true)], args := [d1, d2, d3, d4] }
  | _ => none }
def fnExactStoreWordsRow : OpenClaim := { program := "ytmechjnfeidnkaagreat", sum := "b2ccc51c3fbfd7c5efc2d1c3b7cb22b1d2f33e9b2507632b21b9ca1750b43e07", func := "loop.example/g00986/laws.FnExactStoreWords", spec := "fnExactStoreWords", unfollowed := true, recurses := true, apart := false }
def FnExactStoreWordsSaid : Prop := fnExactStoreWordsRow.holds Tryz.pinned (OpenSpec.ofChange fnExactStoreWordsSpec)

/-- ITS FALSE NEIGHBOUR: 'it returns false'. Refute it at one input. -/
def fnExactStoreWordsWrong : ChangeSpec := { name := "fnExactStoreWords", fn := fun _ => fun
  | [d1, d2, d3, d4] => { results := [.lit (.bool false)], args := [d1, d2, d3, d4] }
  | _ => none }
def FnExactStoreWordsWrongFalsely : Prop := fnExactStoreWordsRow.holds Tryz.pinned (OpenSpec.ofChange fnExactStoreWordsWrong)

/-- 'laws.FnExactIsReplay': WHATEVER THE INPUT: true; the input reads as it did. -/
def fnExactIsReplaySpec : ChangeSpec := { name := "fnExactIsReplay", fn := fun _ => fun
  | [d1, d2, d3] => { results := [.lit (.bool true)], args := [d1, d2, d3] }
  | _ => none }
def fnExactIsReplayRow : OpenClaim := { program := "ytmechjnfeidnkaagreat", sum := "b2ccc51c3fbfd7c5efc2d1c3b7cb22b1d2f33e9b2507632b21b9ca1750b43e07", func := "loop.example/g00986/laws.FnExactIsReplay", spec := "fnExactIsReplay", unfollowed := true, recurses := true, apart := false }
def FnExactIsReplaySaid : Prop := fnExactIsReplayRow.holds Tryz.pinned (OpenSpec.ofChange fnExactIsReplaySpec)

/-- ITS FALSE NEIGHBOUR: 'it returns false'. Refute it at one input. -/
def fnExactIsReplayWrong : ChangeSpec := { name := "fnExactIsReplay", fn := fun _ => fun
  | [d1, d2, d3] => { results := [.lit (.bool false)], args := [d1, d2, d3] }
  | _ => none }
def FnExactIsReplayWrongFalsely : Prop := fnExactIsReplayRow.holds Tryz.pinned (OpenSpec.ofChange fnExactIsReplayWrong)

/-- 'laws.FnExactDoAct': WHATEVER THE INPUT: true; the input reads as it did. -/
def fnExactDoActSpec : ChangeSpec := { name := "fnExactDoAct", fn := fun _ => fun
  | [d1, d2] => { results := [.lit (.bool true)], args := [d1, d2] }
  | _ => none }
def fnExactDoActRow : OpenClaim := { program := "ytmechjnfeidnkaagreat", sum := "b2ccc51c3fbfd7c5efc2d1c3b7cb22b1d2f33e9b2507632b21b9ca1750b43e07", func := "loop.example/g00986/laws.FnExactDoAct", spec := "fnExactDoAct", unfollowed := true, recurses := true, apart := false }
def FnExactDoActSaid : Prop := fnExactDoActRow.holds Tryz.pinned (OpenSpec.ofChange fnExactDoActSpec)

/-- ITS FALSE NEIGHBOUR: 'it returns false'. Refute it at one input. -/
def fnExactDoActWrong : ChangeSpec := { name := "fnExactDoAct", fn := fun _ => fun
  | [d1, d2] => { results := [.lit (.bool false)], args := [d1, d2] }
  | _ => none }
def FnExactDoActWrongFalsely : Prop := fnExactDoActRow.holds Tryz.pinned (OpenSpec.ofChange fnExactDoActWrong)

/-- 'laws.FnExactRunActs': WHATEVER THE INPUT: true; the input reads as it did. -/
def fnExactRunActsSpec : ChangeSpec := { name := "fnExactRunActs", fn := fun _ => fun
  | [d1, d2] => { results := [.lit (.bool true)], args := [d1, d2] }
  | _ => none }
def fnExactRunActsRow : OpenClaim := { program := "ytmechjnfeidnkaagreat", sum := "b2ccc51c3fbfd7c5efc2d1c3b7cb22b1d2f33e9b2507632b21b9ca1750b43e07", func := "loop.example/g00986/laws.FnExactRunActs", spec := "fnExactRunActs", unfollowed := true, recurses := true, apart := false }
def FnExactRunActsSaid : Prop := fnExactRunActsRow.holds Tryz.pinned (OpenSpec.ofChange fnExactRunActsSpec)

/-- ITS FALSE NEIGHBOUR: 'it returns false'. Refute it at one input. -/
def fnExactRunActsWrong : ChangeSpec := { name := "fnExactRunActs", fn := fun _ => fun
  | [d1, d2] => { results := [.lit (.bool false)], args := [d1, d2] }
  | _ => none }
def FnExactRunActsWrongFalsely : Prop := fnExactRunActsRow.holds Tryz.pinned (OpenSpec.ofChange fnExactRunActsWrong)

/- THE SECOND FORM. 'bulk': how many values and letters a reading holds, each counted each time it is reached (what is shared counts as often as it is met; a slice's spare places count too). A statement '..UptoSaid' is the law's where the arguments, and the package variables that the reading takes, are together of bulk at most 1048576: NARROWER than '..Said'. Prove '..Said' where nothing that the law and all that it calls make is longer than what came in: it says more and counts as full. Else prove '..UptoSaid'. A law counts once. -/
mutual
def uptoBulk {H : Type} : DataW H → Nat
  | .lit (.string bytes) => bytes.length + 1
  | .lit _ => 1
  | .nil => 1
  | .ptr d => uptoBulk d + 1
  | .slice elems spare => uptoBulkAll elems + uptoBulkAll spare + 1
  | .agg parts => uptoBulkAll parts + 1
  | .iface _ d => uptoBulk d + 1
  | .map entries => uptoBulkEntries entries + 1
  | .held _ => 1
def uptoBulkAll {H : Type} : List (DataW H) → Nat
  | [] => 0
  | d :: r => uptoBulk d + uptoBulkAll r
def uptoBulkEntries {H : Type} : List (Lit × DataW H) → Nat
  | [] => 0
  | x :: r => uptoBulkEntry x + uptoBulkEntries r
def uptoBulkEntry {H : Type} : Lit × DataW H → Nat
  | (.string bytes, d) => bytes.length + uptoBulk d + 1
  | (_, d) => uptoBulk d + 1
 end
def uptoSmall : (H : Type) → List (DataW H) → Bool := fun _ ds => decide (uptoBulkAll ds ≤ 1048576)
def OpenSpec.upto (s : _root_.Go.ChangeSpec) : _root_.Go.OpenSpec := { _root_.Go.OpenSpec.ofChange s with cond := some uptoSmall }

/-- 'laws.FnStores', WHERE WHAT IT READS IS OF BULK AT MOST 1048576: true; the input reads as it did. -/
def fnStoresUptoRow : OpenClaim := { program := "ytmechjnfeidnkaagreat", sum := "b2ccc51c3fbfd7c5efc2d1c3b7cb22b1d2f33e9b2507632b21b9ca1750b43e07", func := "loop.example/g00986/laws.FnStores", spec := "fnStores", unfollowed := true, recurses := true, apart := false, narrowed := true }
def FnStoresUptoSaid : Prop := fnStoresUptoRow.holds Tryz.pinned (OpenSpec.upto fnStoresSpec)

/-- 'laws.FnScenarios', WHERE WHAT IT READS IS OF BULK AT MOST 1048576: true; the input reads as it did. -/
def fnScenariosUptoRow : OpenClaim := { program := "ytmechjnfeidnkaagreat", sum := "b2ccc51c3fbfd7c5efc2d1c3b7cb22b1d2f33e9b2507632b21b9ca1750b43e07", func := "loop.example/g00986/laws.FnScenarios", spec := "fnScenarios", unfollowed := true, recurses := true, apart := false, narrowed := true }
def FnScenariosUptoSaid : Prop := fnScenariosUptoRow.holds Tryz.pinned (OpenSpec.upto fnScenariosSpec)

/-- 'laws.FnReplays', WHERE WHAT IT READS IS OF BULK AT MOST 1048576: true; the input reads as it did. -/
def fnReplaysUptoRow : OpenClaim := { program := "ytmechjnfeidnkaagreat", sum := "b2ccc51c3fbfd7c5efc2d1c3b7cb22b1d2f33e9b2507632b21b9ca1750b43e07", func := "loop.example/g00986/laws.FnReplays", spec := "fnReplays", unfollowed := true, recurses := true, apart := false, narrowed := true }
def FnReplaysUptoSaid : Prop := fnReplaysUptoRow.holds Tryz.pinned (OpenSpec.upto fnReplaysSpec)

/-- 'laws.FnActParts', WHERE WHAT IT READS IS OF BULK AT MOST 1048576: true; the input reads as it did. -/
def fnActPartsUptoRow : OpenClaim := { program := "ytmechjnfeidnkaagreat", sum := "b2ccc51c3fbfd7c5efc2d1c3b7cb22b1d2f33e9b2507632b21b9ca1750b43e07", func := "loop.example/g00986/laws.FnActParts", spec := "fnActParts", unfollowed := true, recurses := true, apart := false, narrowed := true }
def FnActPartsUptoSaid : Prop := fnActPartsUptoRow.holds Tryz.pinned (OpenSpec.upto fnActPartsSpec)

/-- 'laws.FnExactTargetOf', WHERE WHAT IT READS IS OF BULK AT MOST 1048576: true; the input reads as it did. -/
def fnExactTargetOfUptoRow : OpenClaim := { program := "ytmechjnfeidnkaagreat", sum := "b2ccc51c3fbfd7c5efc2d1c3b7cb22b1d2f33e9b2507632b21b9ca1750b43e07", func := "loop.example/g00986/laws.FnExactTargetOf", spec := "fnExactTargetOf", unfollowed := true, recurses := true, apart := false, narrowed := true }
def FnExactTargetOfUptoSaid : Prop := fnExactTargetOfUptoRow.holds Tryz.pinned (OpenSpec.upto fnExactTargetOfSpec)

/-- 'laws.FnExactLoadWords', WHERE WHAT IT READS IS OF BULK AT MOST 1048576: true; the input reads as it did. -/
def fnExactLoadWordsUptoRow : OpenClaim := { program := "ytmechjnfeidnkaagreat", sum := "b2ccc51c3fbfd7c5efc2d1c3b7cb22b1d2f33e9b2507632b21b9ca1750b43e07", func := "loop.example/g00986/laws.FnExactLoadWords", spec := "fnExactLoadWords", unfollowed := true, recurses := true, apart := false, narrowed := true }
def FnExactLoadWordsUptoSaid : Prop := fnExactLoadWordsUptoRow.holds Tryz.pinned (OpenSpec.upto fnExactLoadWordsSpec)

/-- 'laws.FnExactStoreWords', WHERE WHAT IT READS IS OF BULK AT MOST 1048576: true; the input reads as it did. -/
def fnExactStoreWordsUptoRow : OpenClaim := { program := "ytmechjnfeidnkaagreat", sum := "b2ccc51c3fbfd7c5efc2d1c3b7cb22b1d2f33e9b2507632b21b9ca1750b43e07", func := "loop.example/g00986/laws.FnExactStoreWords", spec := "fnExactStoreWords", unfollowed := true, recurses := true, apart := false, narrowed := true }
def FnExactStoreWordsUptoSaid : Prop := fnExactStoreWordsUptoRow.holds Tryz.pinned (OpenSpec.upto fnExactStoreWordsSpec)

/-- 'laws.FnExactIsReplay', WHERE WHAT IT READS IS OF BULK AT MOST 1048576: true; the input reads as it did. -/
def fnExactIsReplayUptoRow : OpenClaim := { program := "ytmechjnfeidnkaagreat", sum := "b2ccc51c3fbfd7c5efc2d1c3b7cb22b1d2f33e9b2507632b21b9ca1750b43e07", func := "loop.example/g00986/laws.FnExactIsReplay", spec := "fnExactIsReplay", unfollowed := true, recurses := true, apart := false, narrowed := true }
def FnExactIsReplayUptoSaid : Prop := fnExactIsReplayUptoRow.holds Tryz.pinned (OpenSpec.upto fnExactIsReplaySpec)

/-- 'laws.FnExactDoAct', WHERE WHAT IT READS IS OF BULK AT MOST 1048576: true; the input reads as it did. -/
def fnExactDoActUptoRow : OpenClaim := { program := "ytmechjnfeidnkaagreat", sum := "b2ccc51c3fbfd7c5efc2d1c3b7cb22b1d2f33e9b2507632b21b9ca1750b43e07", func := "loop.example/g00986/laws.FnExactDoAct", spec := "fnExactDoAct", unfollowed := true, recurses := true, apart := false, narrowed := true }
def FnExactDoActUptoSaid : Prop := fnExactDoActUptoRow.holds Tryz.pinned (OpenSpec.upto fnExactDoActSpec)

/-- 'laws.FnExactRunActs', WHERE WHAT IT READS IS OF BULK AT MOST 1048576: true; the input reads as it did. -/
def fnExactRunActsUptoRow : OpenClaim := { program := "ytmechjnfeidnkaagreat", sum := "b2ccc51c3fbfd7c5efc2d1c3b7cb22b1d2f33e9b2507632b21b9ca1750b43e07", func := "loop.example/g00986/laws.FnExactRunActs", spec := "fnExactRunActs", unfollowed := true, recurses := true, apart := false, narrowed := true }
def FnExactRunActsUptoSaid : Prop := fnExactRunActsUptoRow.holds Tryz.pinned (OpenSpec.upto fnExactRunActsSpec)

end Rows
end Go.Proofs.YtmechjnfeidnkaaGreat

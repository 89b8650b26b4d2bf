/-
  No cell of these rows narrows 'for every input' (looked for: loops, veiled, ifaces, maps, wideKeys, modest, calm, conditions, laid).
  DERIVED. THE GIVEN ROWS OF THIS SEAT. 10 by the template 'for every input the law returns true; each argument reads behind the call as it read before'; 0 by the template 'total and deterministic' (their statements: YteeklekfafedcaaTotals.lean).
  GIVEN WITH THE SEED: the statements are not yours to turn. If you find one false, say at which input.
  Laid BY PROGRAM, IN A SANDBOX (cutbox-rows.mjs): the forced cells as the released guide's own fill.sh prints them over the translation 700f946e12c00177… (all of the seat's roots in one cut). By AI agents, Wed Nov 11 2026. No macro, syntax, notation, axiom, sorry.
-/
import Derived.Test.YteeklekfafedcaaChecked
import GoSem.Claim
import GoSem.ClaimJoined
import GoSem.ClaimMapViews
import Derived.JoinedTies
import Derived.KernelRfl
namespace Go.Proofs.Yteeklekfafedcaa
/- THE CELL 'sum', in the pinned program and in every row, IS THE sha256 OF THE DUMP (.gsa) THAT YteeklekfafedcaaProg.lean LOADS. Nothing in Lean hashes anything: it is a label: what it is worth is what the hold of that sum in a sandbox is worth. -/
noncomputable def Try.pinned : Pinned := { name := "yteeklekfafedcaa", sum := "700f946e12c00177f19acf4a1aaffab250247841b40e9b7c2c8ebf6e8f581365", checked := Try.checked }
namespace Rows
def none {H : Type} : Left H := { results := [], args := [] }

/-- 'laws.FnExactIsIsolated': WHATEVER THE INPUT: true; the input reads as it did. -/
def fnExactIsIsolatedSpec : ChangeSpec := { name := "fnExactIsIsolated", fn := fun _ => fun
  | [d1, d2, d3] => { results := [.lit (.bool true)], args := [d1, d2, d3] }
  | _ => none }
def fnExactIsIsolatedRow : OpenClaim := { program := "yteeklekfafedcaa", sum := "700f946e12c00177f19acf4a1aaffab250247841b40e9b7c2c8ebf6e8f581365", func := "loop.example/g00986/laws.FnExactIsIsolated", spec := "fnExactIsIsolated", unfollowed := true, recurses := true, apart := false }
def FnExactIsIsolatedSaid : Prop := fnExactIsIsolatedRow.holds Try.pinned (OpenSpec.ofChange fnExactIsIsolatedSpec)

/-- ITS FALSE NEIGHBOUR: 'it returns false'. Refute it at one input. -/
def fnExactIsIsolatedWrong : ChangeSpec := { name := "fnExactIsIsolated", fn := fun _ => fun
  | [d1, d2, d3] => { results := [.lit (.bool false)], args := [d1, d2, d3] }
  | _ => none }
def FnExactIsIsolatedWrongFalsely : Prop := fnExactIsIsolatedRow.holds Try.pinned (OpenSpec.ofChange fnExactIsIsolatedWrong)

/-- 'laws.FnExactRevokePage': WHATEVER THE INPUT: true; the input reads as it did. -/
def fnExactRevokePageSpec : ChangeSpec := { name := "fnExactRevokePage", fn := fun _ => fun
  | [d1, d2] => { results := [.lit (.bool true)], args := [d1, d2] }
  | _ => none }
def fnExactRevokePageRow : OpenClaim := { program := "yteeklekfafedcaa", sum := "700f946e12c00177f19acf4a1aaffab250247841b40e9b7c2c8ebf6e8f581365", func := "loop.example/g00986/laws.FnExactRevokePage", spec := "fnExactRevokePage", unfollowed := true, recurses := true, apart := false }
def FnExactRevokePageSaid : Prop := fnExactRevokePageRow.holds Try.pinned (OpenSpec.ofChange fnExactRevokePageSpec)

/-- ITS FALSE NEIGHBOUR: 'it returns false'. Refute it at one input. -/
def fnExactRevokePageWrong : ChangeSpec := { name := "fnExactRevokePage", fn := fun _ => fun
  | [d1, d2] => { results := [.lit (.bool false)], args := [d1, d2] }
  | _ => none }
def FnExactRevokePageWrongFalsely : Prop := fnExactRevokePageRow.holds Try.pinned (OpenSpec.ofChange fnExactRevokePageWrong)

/-- 'laws.FnExactSlotsOf': WHATEVER THE INPUT: true; the input reads as it did. -/
def fnExactSlotsOfSpec : ChangeSpec := { name := "fnExactSlotsOf", fn := fun _ => fun
  | [d1, d2] => { results := [.lit (.bool true)], args := [d1, d2] }
  | _ => none }
def fnExactSlotsOfRow : OpenClaim := { program := "yteeklekfafedcaa", sum := "700f946e12c00177f19acf4a1aaffab250247841b40e9b7c2c8ebf6e8f581365", func := "loop.example/g00986/laws.FnExactSlotsOf", spec := "fnExactSlotsOf", unfollowed := true, recurses := true, apart := false }
def FnExactSlotsOfSaid : Prop := fnExactSlotsOfRow.holds Try.pinned (OpenSpec.ofChange fnExactSlotsOfSpec)

/-- ITS FALSE NEIGHBOUR: 'it returns false'. Refute it at one input. -/
def fnExactSlotsOfWrong : ChangeSpec := { name := "fnExactSlotsOf", fn := fun _ => fun
  | [d1, d2] => { results := [.lit (.bool false)], args := [d1, d2] }
  | _ => none }
def FnExactSlotsOfWrongFalsely : Prop := fnExactSlotsOfRow.holds Try.pinned (OpenSpec.ofChange fnExactSlotsOfWrong)

/-- 'laws.FnExactSameFabric': WHATEVER THE INPUT: true; the input reads as it did. -/
def fnExactSameFabricSpec : ChangeSpec := { name := "fnExactSameFabric", fn := fun _ => fun
  | [d1, d2] => { results := [.lit (.bool true)], args := [d1, d2] }
  | _ => none }
def fnExactSameFabricRow : OpenClaim := { program := "yteeklekfafedcaa", sum := "700f946e12c00177f19acf4a1aaffab250247841b40e9b7c2c8ebf6e8f581365", func := "loop.example/g00986/laws.FnExactSameFabric", spec := "fnExactSameFabric", unfollowed := true, recurses := true, apart := false }
def FnExactSameFabricSaid : Prop := fnExactSameFabricRow.holds Try.pinned (OpenSpec.ofChange fnExactSameFabricSpec)

/-- ITS FALSE NEIGHBOUR: 'it returns false'. Refute it at one input. -/
def fnExactSameFabricWrong : ChangeSpec := { name := "fnExactSameFabric", fn := fun _ => fun
  | [d1, d2] => { results := [.lit (.bool false)], args := [d1, d2] }
  | _ => none }
def FnExactSameFabricWrongFalsely : Prop := fnExactSameFabricRow.holds Try.pinned (OpenSpec.ofChange fnExactSameFabricWrong)

/-- 'laws.FnRanges': WHATEVER THE INPUT: true; the input reads as it did. -/
def fnRangesSpec : ChangeSpec := { name := "fnRanges", fn := fun _ => fun
  | [d] => { results := [.lit (.bool true)], args := [d] }
  | _ => none }
def fnRangesRow : OpenClaim := { program := "yteeklekfafedcaa", sum := "700f946e12c00177f19acf4a1aaffab250247841b40e9b7c2c8ebf6e8f581365", func := "loop.example/g00986/laws.FnRanges", spec := "fnRanges", unfollowed := true, recurses := true, apart := false }
def FnRangesSaid : Prop := fnRangesRow.holds Try.pinned (OpenSpec.ofChange fnRangesSpec)

/-- ITS FALSE NEIGHBOUR: 'it returns false'. Refute it at one input. -/
def fnRangesWrong : ChangeSpec := { name := "fnRanges", fn := fun _ => fun
  | [d] => { results := [.lit (.bool false)], args := [d] }
  | _ => none }
def FnRangesWrongFalsely : Prop := fnRangesRow.holds Try.pinned (OpenSpec.ofChange fnRangesWrong)

/-- 'laws.FnVirtuals': WHATEVER THE INPUT: true; the input reads as it did. -/
def fnVirtualsSpec : ChangeSpec := { name := "fnVirtuals", fn := fun _ => fun
  | [d] => { results := [.lit (.bool true)], args := [d] }
  | _ => none }
def fnVirtualsRow : OpenClaim := { program := "yteeklekfafedcaa", sum := "700f946e12c00177f19acf4a1aaffab250247841b40e9b7c2c8ebf6e8f581365", func := "loop.example/g00986/laws.FnVirtuals", spec := "fnVirtuals", apart := false }
def FnVirtualsSaid : Prop := fnVirtualsRow.holds Try.pinned (OpenSpec.ofChange fnVirtualsSpec)

/-- ITS FALSE NEIGHBOUR: 'it returns false'. Refute it at one input. -/
def fnVirtualsWrong : ChangeSpec := { name := "fnVirtuals", fn := fun _ => fun
  | [d] => { results := [.lit (.bool false)], args := [d] }
  | _ => none }
def FnVirtualsWrongFalsely : Prop := fnVirtualsRow.holds Try.pinned (OpenSpec.ofChange fnVirtualsWrong)

/-- 'laws.FnTranslations': WHATEVER THE INPUT: true; the input reads as it did. -/
def fnTranslationsSpec : ChangeSpec := { name := "fnTranslations", fn := fun _ => fun
  | [d] => { results := [.lit (.bool true)], args := [d] }
  | _ => none }
def fnTranslationsRow : OpenClaim := { program := "yteeklekfafedcaa", sum := "700f946e12c00177f19acf4a1aaffab250247841b40e9b7c2c8ebf6e8f581365", func := "loop.example/g00986/laws.FnTranslations", spec := "fnTranslations", unfollowed := true, recurses := true, apart := false }
def FnTranslationsSaid : Prop := fnTranslationsRow.holds Try.pinned (OpenSpec.ofChange fnTranslationsSpec)

/-- ITS FALSE NEIGHBOUR: 'it returns false'. Refute it at one input. -/
def fnTranslationsWrong : ChangeSpec := { name := "fnTranslations", fn := fun _ => fun
  | [d] => { results := [.lit (.bool false)], args := [d] }
  | _ => none }
def FnTranslationsWrongFalsely : Prop := fnTranslationsRow.holds Try.pinned (OpenSpec.ofChange fnTranslationsWrong)

/-- 'laws.FnPlugs': WHATEVER THE INPUT: true; the input reads as it did. -/
def fnPlugsSpec : ChangeSpec := { name := "fnPlugs", fn := fun _ => fun
  | [d] => { results := [.lit (.bool true)], args := [d] }
  | _ => none }
def fnPlugsRow : OpenClaim := { program := "yteeklekfafedcaa", sum := "700f946e12c00177f19acf4a1aaffab250247841b40e9b7c2c8ebf6e8f581365", func := "loop.example/g00986/laws.FnPlugs", spec := "fnPlugs", unfollowed := true, recurses := true, apart := false }
def FnPlugsSaid : Prop := fnPlugsRow.holds Try.pinned (OpenSpec.ofChange fnPlugsSpec)

/-- ITS FALSE NEIGHBOUR: 'it returns false'. Refute it at one input. -/
def fnPlugsWrong : ChangeSpec := { name := "fnPlugs", fn := fun _ => fun
  | [d] => { results := [.lit (.bool false)], args := [d] }
  | _ => none }
def FnPlugsWrongFalsely : Prop := fnPlugsRow.holds Try.pinned (OpenSpec.ofChange fnPlugsWrong)

/-- 'laws.FnWakes': WHATEVER THE INPUT: true; the input reads as it did. -/
def fnWakesSpec : ChangeSpec := { name := "fnWakes", fn := fun _ => fun
  | [d] => { results := [.lit (.bool true)], args := [d] }
  | _ => none }
def fnWakesRow : OpenClaim := { program := "yteeklekfafedcaa", sum := "700f946e12c00177f19acf4a1aaffab250247841b40e9b7c2c8ebf6e8f581365", func := "loop.example/g00986/laws.FnWakes", spec := "fnWakes", unfollowed := true, recurses := true, apart := false }
def FnWakesSaid : Prop := fnWakesRow.holds Try.pinned (OpenSpec.ofChange fnWakesSpec)

/-- ITS FALSE NEIGHBOUR: 'it returns false'. Refute it at one input. -/
def fnWakesWrong : ChangeSpec := { name := "fnWakes", fn := fun _ => fun
  | [d] => { results := [.lit (.bool false)], args := [d] }
  | _ => none }
def FnWakesWrongFalsely : Prop := fnWakesRow.holds Try.pinned (OpenSpec.ofChange fnWakesWrong)

/-- 'laws.FnSlots': WHATEVER THE INPUT: true; the input reads as it did. -/
def fnSlotsSpec : ChangeSpec := { name := "fnSlots", fn := fun _ => fun
  | [d] => { results := [.lit (.bool true)], args := [d] }
  | _ => none }
def fnSlotsRow : OpenClaim := { program := "yteeklekfafedcaa", sum := "700f946e12c00177f19acf4a1aaffab250247841b40e9b7c2c8ebf6e8f581365", func := "loop.example/g00986/laws.FnSlots", spec := "fnSlots", unfollowed := true, recurses := true, apart := false }
def FnSlotsSaid : Prop := fnSlotsRow.holds Try.pinned (OpenSpec.ofChange fnSlotsSpec)

/-- ITS FALSE NEIGHBOUR: 'it returns false'. Refute it at one input. -/
def fnSlotsWrong : ChangeSpec := { name := "fnSlots", fn := fun _ => fun
  | [d] => { results := [.lit (.bool false)], args := [d] }
  | _ => none }
def FnSlotsWrongFalsely : Prop := fnSlotsRow.holds Try.pinned (OpenSpec.ofChange fnSlotsWrong)

/- THE SECOND FORM. 'bulk': how many values and letters a reading holds, each counted each time it is reached (what is shared counts as often as it is met; a slice's spare places count too). A statement '..UptoSaid' is the law's where the arguments, and the package variables that the reading takes, are together of bulk at most 1048576: NARROWER than '..Said'. Prove '..Said' where nothing that the law and all that it calls make is longer than what came in: it says more and counts as full. Else prove '..UptoSaid'. A law counts once. -/
mutual
def uptoBulk {H : Type} : DataW H → Nat
  | .lit (.string bytes) => bytes.length + 1
  | .lit _ => 1
  | .nil => 1
  | .ptr d => uptoBulk d + 1
  | .slice elems spare => uptoBulkAll elems + uptoBulkAll spare + 1
  | .agg parts => uptoBulkAll parts + 1
  | .iface _ d => uptoBulk d + 1
  | .map entries => uptoBulkEntries entries + 1
  | .held _ => 1
def uptoBulkAll {H : Type} : List (DataW H) → Nat
  | [] => 0
  | d :: r => uptoBulk d + uptoBulkAll r
def uptoBulkEntries {H : Type} : List (Lit × DataW H) → Nat
  | [] => 0
  | x :: r => uptoBulkEntry x + uptoBulkEntries r
def uptoBulkEntry {H : Type} : Lit × DataW H → Nat
  | (.string bytes, d) => bytes.length + uptoBulk d + 1
  | (_, d) => uptoBulk d + 1
 end
def uptoSmall : (H : Type) → List (DataW H) → Bool := fun _ ds => decide (uptoBulkAll ds ≤ 1048576)
def OpenSpec.upto (s : _root_.Go.ChangeSpec) : _root_.Go.OpenSpec := { _root_.Go.OpenSpec.ofChange s with cond := some uptoSmall }

/-- 'laws.FnExactIsIsolated', WHERE WHAT IT READS IS OF BULK AT MOST 1048576: true; the input reads as it did. -/
def fnExactIsIsolatedUptoRow : OpenClaim := { program := "yteeklekfafedcaa", sum := "700f946e12c00177f19acf4a1aaffab250247841b40e9b7c2c8ebf6e8f581365", func := "loop.example/g00986/laws.FnExactIsIsolated", spec := "fnExactIsIsolated", unfollowed := true, recurses := true, apart := false, narrowed := true }
def FnExactIsIsolatedUptoSaid : Prop := fnExactIsIsolatedUptoRow.holds Try.pinned (OpenSpec.upto fnExactIsIsolatedSpec)

/-- 'laws.FnExactRevokePage', WHERE WHAT IT READS IS OF BULK AT MOST 1048576: true; the input reads as it did. -/
def fnExactRevokePageUptoRow : OpenClaim := { program := "yteeklekfafedcaa", sum := "700f946e12c00177f19acf4a1aaffab250247841b40e9b7c2c8ebf6e8f581365", func := "loop.example/g00986/laws.FnExactRevokePage", spec := "fnExactRevokePage", unfollowed := true, recurses := true, apart := false, narrowed := true }
def FnExactRevokePageUptoSaid : Prop := fnExactRevokePageUptoRow.holds Try.pinned (OpenSpec.upto fnExactRevokePageSpec)

/-- 'laws.FnExactSlotsOf', WHERE WHAT IT READS IS OF BULK AT MOST 1048576: true; the input reads as it did. -/
def fnExactSlotsOfUptoRow : OpenClaim := { program := "yteeklekfafedcaa", sum := "700f946e12c00177f19acf4a1aaffab250247841b40e9b7c2c8ebf6e8f581365", func := "loop.example/g00986/laws.FnExactSlotsOf", spec := "fnExactSlotsOf", unfollowed := true, recurses := true, apart := false, narrowed := true }
def FnExactSlotsOfUptoSaid : Prop := fnExactSlotsOfUptoRow.holds Try.pinned (OpenSpec.upto fnExactSlotsOfSpec)

/-- 'laws.FnExactSameFabric', WHERE WHAT IT READS IS OF BULK AT MOST 1048576: true; the input reads as it did. -/
def fnExactSameFabricUptoRow : OpenClaim := { program := "yteeklekfafedcaa", sum := "700f946e12c00177f19acf4a1aaffab250247841b40e9b7c2c8ebf6e8f581365", func := "loop.example/g00986/laws.FnExactSameFabric", spec := "fnExactSameFabric", unfollowed := true, recurses := true, apart := false, narrowed := true }
def FnExactSameFabricUptoSaid : Prop := fnExactSameFabricUptoRow.holds Try.pinned (OpenSpec.upto fnExactSameFabricSpec)

/-- 'laws.FnRanges', WHERE WHAT IT READS IS OF BULK AT MOST 1048576: true; the input reads as it did. -/
def fnRangesUptoRow : OpenClaim := { program := "yteeklekfafedcaa", sum := "700f946e12c00177f19acf4a1aaffab250247841b40e9b7c2c8ebf6e8f581365", func := "loop.example/g00986/laws.FnRanges", spec := "fnRanges", unfollowed := true, recurses := true, apart := false, narrowed := true }
def FnRangesUptoSaid : Prop := fnRangesUptoRow.holds Try.pinned (OpenSpec.upto fnRangesSpec)

/-- 'laws.FnVirtuals', WHERE WHAT IT READS IS OF BULK AT MOST 1048576: true; the input reads as it did. -/
def fnVirtualsUptoRow : OpenClaim := { program := "yteeklekfafedcaa", sum := "700f946e12c00177f19acf4a1aaffab250247841b40e9b7c2c8ebf6e8f581365", func := "loop.example/g00986/laws.FnVirtuals", spec := "fnVirtuals", apart := false, narrowed := true }
def FnVirtualsUptoSaid : Prop := fnVirtualsUptoRow.holds Try.pinned (OpenSpec.upto fnVirtualsSpec)

/-- 'laws.FnTranslations', WHERE WHAT IT READS IS OF BULK AT MOST 1048576: true; the input reads as it did. -/
def fnTranslationsUptoRow : OpenClaim := { program := "yteeklekfafedcaa", sum := "700f946e12c00177f19acf4a1aaffab250247841b40e9b7c2c8ebf6e8f581365", func := "loop.example/g00986/laws.FnTranslations", spec := "fnTranslations", unfollowed := true, recurses := true, apart := false, narrowed := true }
def FnTranslationsUptoSaid : Prop := fnTranslationsUptoRow.holds Try.pinned (OpenSpec.upto fnTranslationsSpec)

/-- 'laws.FnPlugs', WHERE WHAT IT READS IS OF BULK AT MOST 1048576: true; the input reads as it did. -/
def fnPlugsUptoRow : OpenClaim := { program := "yteeklekfafedcaa", sum := "700f946e12c00177f19acf4a1aaffab250247841b40e9b7c2c8ebf6e8f581365", func := "loop.example/g00986/laws.FnPlugs", spec := "fnPlugs", unfollowed := true, recurses := true, apart := false, narrowed := true }
def FnPlugsUptoSaid : Prop := fnPlugsUptoRow.holds Try.pinned (OpenSpec.upto fnPlugsSpec)

/-- 'laws.FnWakes', WHERE WHAT IT READS IS OF BULK AT MOST 1048576: true; the input reads as it did. -/
def fnWakesUptoRow : OpenClaim := { program := "yteeklekfafedcaa", sum := "700f946e12c00177f19acf4a1aaffab250247841b40e9b7c2c8ebf6e8f581365", func := "loop.example/g00986/laws.FnWakes", spec := "fnWakes", unfollowed := true, recurses := true, apart := false, narrowed := true }
def FnWakesUptoSaid : Prop := fnWakesUptoRow.holds Try.pinned (OpenSpec.upto fnWakesSpec)

/-- 'laws.FnSlots', WHERE WHAT IT READS IS OF BULK AT MOST 1048576: true; the input reads as it did. -/
def fnSlotsUptoRow : OpenClaim := { program := "yteeklekfafedcaa", sum := "700f946e12c00177f19acf4a1aaffab250247841b40e9b7c2c8ebf6e8f581365", func := "loop.example/g00986/laws.FnSlots", spec := "fnSlots", unfollowed := true, recurses := true, apart := false, narrowed := true }
def FnSlotsUptoSaid : Prop := fnSlotsUptoRow.holds Try.pinned (OpenSpec.upto fnSlotsSpec)

end Rows
end Go.Proofs.Yteeklekfafedcaa

/-
  No cell of these rows narrows 'for every input' (looked for: loops, veiled, ifaces, maps, wideKeys, modest, calm, conditions, laid).
  DERIVED. THE GIVEN ROWS OF THIS SEAT. 22 by the template 'for every input the law returns true; each argument reads behind the call as it read before'; 0 by the template 'total and deterministic' (their statements: YtdolbkocghgibaaTotals.lean).
  GIVEN WITH THE SEED: the statements are not yours to turn. If you find one false, say at which input.
  Laid BY PROGRAM, IN A SANDBOX (cutbox-rows.mjs): the forced cells as the released guide's own fill.sh prints them over the translation 99c7d71de96b3a23… (all of the seat's roots in one cut). By AI agents, Wed Nov 11 2026. No macro, syntax, notation, axiom, sorry.
-/
import Derived.Test.YtdolbkocghgibaaChecked
import GoSem.Claim
import GoSem.ClaimJoined
import GoSem.ClaimMapViews
import Derived.JoinedTies
import Derived.KernelRfl
namespace Go.Proofs.Ytdolbkocghgibaa
/- THE CELL 'sum', in the pinned program and in every row, IS THE sha256 OF THE DUMP (.gsa) THAT YtdolbkocghgibaaProg.lean LOADS. Nothing in Lean hashes anything: it is a label: what it is worth is what the hold of that sum in a sandbox is worth. -/
noncomputable def Try.pinned : Pinned := { name := "ytdolbkocghgibaa", sum := "99c7d71de96b3a23601af0f6af3df3a5a9972881c74d5b993cb96245efa59115", checked := Try.checked }
namespace Rows
def none {H : Type} : Left H := { results := [], args := [] }

/-- 'laws.FnExactSameTree': WHATEVER THE INPUT: true; the input reads as it did. -/
def fnExactSameTreeSpec : ChangeSpec := { name := "fnExactSameTree", fn := fun _ => fun
  | [d1, d2] => { results := [.lit (.bool true)], args := [d1, d2] }
  | _ => none }
def fnExactSameTreeRow : OpenClaim := { program := "ytdolbkocghgibaa", sum := "99c7d71de96b3a23601af0f6af3df3a5a9972881c74d5b993cb96245efa59115", func := "loop.example/g00986/laws.FnExactSameTree", spec := "fnExactSameTree", apart := false }
def FnExactSameTreeSaid : Prop := fnExactSameTreeRow.holds Try.pinned (OpenSpec.ofChange fnExactSameTreeSpec)

/-- ITS FALSE NEIGHBOUR: 'it returns false'. Refute it at one input. -/
def fnExactSameTreeWrong : ChangeSpec := { name := "fnExactSameTree", fn := fun _ => fun
  | [d1, d2] => { results := [.lit (.bool false)], args := [d1, d2] }
  | _ => none }
def FnExactSameTreeWrongFalsely : Prop := fnExactSameTreeRow.holds Try.pinned (OpenSpec.ofChange fnExactSameTreeWrong)

/-- 'laws.FnExactGrantsOk': WHATEVER THE INPUT: true; the input reads as it did. -/
def fnExactGrantsOkSpec : ChangeSpec := { name := "fnExactGrantsOk", fn := fun _ => fun
  | [d] => { results := [.lit (.bool true)], args := [d] }
  | _ => none }
def fnExactGrantsOkRow : OpenClaim := { program := "ytdolbkocghgibaa", sum := "99c7d71de96b3a23601af0f6af3df3a5a9972881c74d5b993cb96245efa59115", func := "loop.example/g00986/laws.FnExactGrantsOk", spec := "fnExactGrantsOk", unfollowed := true, recurses := true, apart := false }
def FnExactGrantsOkSaid : Prop := fnExactGrantsOkRow.holds Try.pinned (OpenSpec.ofChange fnExactGrantsOkSpec)

/-- ITS FALSE NEIGHBOUR: 'it returns false'. Refute it at one input. -/
def fnExactGrantsOkWrong : ChangeSpec := { name := "fnExactGrantsOk", fn := fun _ => fun
  | [d] => { results := [.lit (.bool false)], args := [d] }
  | _ => none }
def FnExactGrantsOkWrongFalsely : Prop := fnExactGrantsOkRow.holds Try.pinned (OpenSpec.ofChange fnExactGrantsOkWrong)

/-- 'laws.FnVirtuals': WHATEVER THE INPUT: true; the input reads as it did. -/
def fnVirtualsSpec : ChangeSpec := { name := "fnVirtuals", fn := fun _ => fun
  | [d] => { results := [.lit (.bool true)], args := [d] }
  | _ => none }
def fnVirtualsRow : OpenClaim := { program := "ytdolbkocghgibaa", sum := "99c7d71de96b3a23601af0f6af3df3a5a9972881c74d5b993cb96245efa59115", func := "loop.example/g00986/laws.FnVirtuals", spec := "fnVirtuals", apart := false }
def FnVirtualsSaid : Prop := fnVirtualsRow.holds Try.pinned (OpenSpec.ofChange fnVirtualsSpec)

/-- ITS FALSE NEIGHBOUR: 'it returns false'. Refute it at one input. -/
def fnVirtualsWrong : ChangeSpec := { name := "fnVirtuals", fn := fun _ => fun
  | [d] => { results := [.lit (.bool false)], args := [d] }
  | _ => none }
def FnVirtualsWrongFalsely : Prop := fnVirtualsRow.holds Try.pinned (OpenSpec.ofChange fnVirtualsWrong)

/-- 'laws.FnExactVirtualIds': WHATEVER THE INPUT: true; the input reads as it did. -/
def fnExactVirtualIdsSpec : ChangeSpec := { name := "fnExactVirtualIds", fn := fun _ => fun
  | [d1, d2] => { results := [.lit (.bool true)], args := [d1, d2] }
  | _ => none }
def fnExactVirtualIdsRow : OpenClaim := { program := "ytdolbkocghgibaa", sum := "99c7d71de96b3a23601af0f6af3df3a5a9972881c74d5b993cb96245efa59115", func := "loop.example/g00986/laws.FnExactVirtualIds", spec := "fnExactVirtualIds", apart := false }
def FnExactVirtualIdsSaid : Prop := fnExactVirtualIdsRow.holds Try.pinned (OpenSpec.ofChange fnExactVirtualIdsSpec)

/-- ITS FALSE NEIGHBOUR: 'it returns false'. Refute it at one input. -/
def fnExactVirtualIdsWrong : ChangeSpec := { name := "fnExactVirtualIds", fn := fun _ => fun
  | [d1, d2] => { results := [.lit (.bool false)], args := [d1, d2] }
  | _ => none }
def FnExactVirtualIdsWrongFalsely : Prop := fnExactVirtualIdsRow.holds Try.pinned (OpenSpec.ofChange fnExactVirtualIdsWrong)

/-- 'laws.FnExactIsIsolated': WHATEVER THE INPUT: true; the input reads as it did. -/
def fnExactIsIsolatedSpec : ChangeSpec := { name := "fnExactIsIsolated", fn := fun _ => fun
  | [d1, d2, d3] => { results := [.lit (.bool true)], args := [d1, d2, d3] }
  | _ => none }
def fnExactIsIsolatedRow : OpenClaim := { program := "ytdolbkocghgibaa", sum := "99c7d71de96b3a23601af0f6af3df3a5a9972881c74d5b993cb96245efa59115", func := "loop.example/g00986/laws.FnExactIsIsolated", spec := "fnExactIsIsolated", unfollowed := true, recurses := true, apart := false }
def FnExactIsIsolatedSaid : Prop := fnExactIsIsolatedRow.holds Try.pinned (OpenSpec.ofChange fnExactIsIsolatedSpec)

/-- ITS FALSE NEIGHBOUR: 'it returns false'. Refute it at one input. -/
def fnExactIsIsolatedWrong : ChangeSpec := { name := "fnExactIsIsolated", fn := fun _ => fun
  | [d1, d2, d3] => { results := [.lit (.bool false)], args := [d1, d2, d3] }
  | _ => none }
def FnExactIsIsolatedWrongFalsely : Prop := fnExactIsIsolatedRow.holds Try.pinned (OpenSpec.ofChange fnExactIsIsolatedWrong)

/-- 'laws.FnExactTranslate': WHATEVER THE INPUT: true; the input reads as it did. -/
def fnExactTranslateSpec : ChangeSpec := { name := "fnExactTranslate", fn := fun _ => fun
  | [d1, d2, d3, d4] => { results := [.lit (.bool true)], args := [d1, d2, d3, d4] }
  | _ => none }
def fnExactTranslateRow : OpenClaim := { program := "ytdolbkocghgibaa", sum := "99c7d71de96b3a23601af0f6af3df3a5a9972881c74d5b993cb96245efa59115", func := "loop.example/g00986/laws.FnExactTranslate", spec := "fnExactTranslate", unfollowed := true, recurses := true, apart := false }
def FnExactTranslateSaid : Prop := fnExactTranslateRow.holds Try.pinned (OpenSpec.ofChange fnExactTranslateSpec)

/-- ITS FALSE NEIGHBOUR: 'it returns false'. Refute it at one input. -/
def fnExactTranslateWrong : ChangeSpec := { name := "fnExactTranslate", fn := fun _ => fun
  | [d1, d2, d3, d4] => { results := [.lit (.bool false)], args := [d1, d2, d3, d4] }
  | _ => none }
def FnExactTranslateWrongFalsely : Prop := fnExactTranslateRow.holds Try.pinned (OpenSpec.ofChange fnExactTranslateWrong)

/-- 'laws.FnRanges': WHATEVER THE INPUT: true; the input reads as it did. -/
def fnRangesSpec : ChangeSpec := { name := "fnRanges", fn := fun _ => fun
  | [d] => { results := [.lit (.bool true)], args := [d] }
  | _ => none }
def fnRangesRow : OpenClaim := { program := "ytdolbkocghgibaa", sum := "99c7d71de96b3a23601af0f6af3df3a5a9972881c74d5b993cb96245efa59115", func := "loop.example/g00986/laws.FnRanges", spec := "fnRanges", unfollowed := true, recurses := true, apart := false }
def FnRangesSaid : Prop := fnRangesRow.holds Try.pinned (OpenSpec.ofChange fnRangesSpec)

/-- ITS FALSE NEIGHBOUR: 'it returns false'. Refute it at one input. -/
def fnRangesWrong : ChangeSpec := { name := "fnRanges", fn := fun _ => fun
  | [d] => { results := [.lit (.bool false)], args := [d] }
  | _ => none }
def FnRangesWrongFalsely : Prop := fnRangesRow.holds Try.pinned (OpenSpec.ofChange fnRangesWrong)

/-- 'laws.FnExactRevokePage': WHATEVER THE INPUT: true; the input reads as it did. -/
def fnExactRevokePageSpec : ChangeSpec := { name := "fnExactRevokePage", fn := fun _ => fun
  | [d1, d2] => { results := [.lit (.bool true)], args := [d1, d2] }
  | _ => none }
def fnExactRevokePageRow : OpenClaim := { program := "ytdolbkocghgibaa", sum := "99c7d71de96b3a23601af0f6af3df3a5a9972881c74d5b993cb96245efa59115", func := "loop.example/g00986/laws.FnExactRevokePage", spec := "fnExactRevokePage", unfollowed := true, recurses := true, apart := false }
def FnExactRevokePageSaid : Prop := fnExactRevokePageRow.holds Try.pinned (OpenSpec.ofChange fnExactRevokePageSpec)

/-- ITS FALSE NEIGHBOUR: 'it returns false'. Refute it at one input. -/
def fnExactRevokePageWrong : ChangeSpec := { name := "fnExactRevokePage", fn := fun _ => fun
  | [d1, d2] => { results := [.lit (.bool false)], args := [d1, d2] }
  | _ => none }
def FnExactRevokePageWrongFalsely : Prop := fnExactRevokePageRow.holds Try.pinned (OpenSpec.ofChange fnExactRevokePageWrong)

/-- 'laws.FnTranslations': WHATEVER THE INPUT: true; the input reads as it did. -/
def fnTranslationsSpec : ChangeSpec := { name := "fnTranslations", fn := fun _ => fun
  | [d] => { results := [.lit (.bool true)], args := [d] }
  | _ => none }
def fnTranslationsRow : OpenClaim := { program := "ytdolbkocghgibaa", sum := "99c7d71de96b3a23601af0f6af3df3a5a9972881c74d5b993cb96245efa59115", func := "loop.example/g00986/laws.FnTranslations", spec := "fnTranslations", unfollowed := true, recurses := true, apart := false }
def FnTranslationsSaid : Prop := fnTranslationsRow.holds Try.pinned (OpenSpec.ofChange fnTranslationsSpec)

/-- ITS FALSE NEIGHBOUR: 'it returns false'. Refute it at one input. -/
def fnTranslationsWrong : ChangeSpec := { name := "fnTranslations", fn := fun _ => fun
  | [d] => { results := [.lit (.bool false)], args := [d] }
  | _ => none }
def FnTranslationsWrongFalsely : Prop := fnTranslationsRow.holds Try.pinned (OpenSpec.ofChange fnTranslationsWrong)

/-- 'laws.FnExactAddNode': WHATEVER THE INPUT: true; the input reads as it did. -/
def fnExactAddNodeSpec : ChangeSpec := { name := "fnExactAddNode", fn := fun _ => fun
  | [d1, d2, d3, d4] => { results := [.lit (.bool true)], args := [d1, d2, d3, d4] }
  | _ => none }
def fnExactAddNodeRow : OpenClaim := { program := "ytdolbkocghgibaa", sum := "99c7d71de96b3a23601af0f6af3df3a5a9972881c74d5b993cb96245efa59115", func := "loop.example/g00986/laws.FnExactAddNode", spec := "fnExactAddNode", unfollowed := true, recurses := true, apart := false }
def FnExactAddNodeSaid : Prop := fnExactAddNodeRow.holds Try.pinned (OpenSpec.ofChange fnExactAddNodeSpec)

/-- ITS FALSE NEIGHBOUR: 'it returns false'. Refute it at one input. -/
def fnExactAddNodeWrong : ChangeSpec := { name := "fnExactAddNode", fn := fun _ => fun
  | [d1, d2, d3, d4] => { results := [.lit (.bool false)], args := [d1, d2, d3, d4] }
  | _ => none }
def FnExactAddNodeWrongFalsely : Prop := fnExactAddNodeRow.holds Try.pinned (OpenSpec.ofChange fnExactAddNodeWrong)

/-- 'laws.FnExactSleepOk': WHATEVER THE INPUT: true; the input reads as it did. -/
def fnExactSleepOkSpec : ChangeSpec := { name := "fnExactSleepOk", fn := fun _ => fun
  | [d1, d2] => { results := [.lit (.bool true)], args := [d1, d2] }
  | _ => none }
def fnExactSleepOkRow : OpenClaim := { program := "ytdolbkocghgibaa", sum := "99c7d71de96b3a23601af0f6af3df3a5a9972881c74d5b993cb96245efa59115", func := "loop.example/g00986/laws.FnExactSleepOk", spec := "fnExactSleepOk", unfollowed := true, recurses := true, apart := false }
def FnExactSleepOkSaid : Prop := fnExactSleepOkRow.holds Try.pinned (OpenSpec.ofChange fnExactSleepOkSpec)

/-- ITS FALSE NEIGHBOUR: 'it returns false'. Refute it at one input. -/
def fnExactSleepOkWrong : ChangeSpec := { name := "fnExactSleepOk", fn := fun _ => fun
  | [d1, d2] => { results := [.lit (.bool false)], args := [d1, d2] }
  | _ => none }
def FnExactSleepOkWrongFalsely : Prop := fnExactSleepOkRow.holds Try.pinned (OpenSpec.ofChange fnExactSleepOkWrong)

/-- 'laws.FnPlugs': WHATEVER THE INPUT: true; the input reads as it did. -/
def fnPlugsSpec : ChangeSpec := { name := "fnPlugs", fn := fun _ => fun
  | [d] => { results := [.lit (.bool true)], args := [d] }
  | _ => none }
def fnPlugsRow : OpenClaim := { program := "ytdolbkocghgibaa", sum := "99c7d71de96b3a23601af0f6af3df3a5a9972881c74d5b993cb96245efa59115", func := "loop.example/g00986/laws.FnPlugs", spec := "fnPlugs", unfollowed := true, recurses := true, apart := false }
def FnPlugsSaid : Prop := fnPlugsRow.holds Try.pinned (OpenSpec.ofChange fnPlugsSpec)

/-- ITS FALSE NEIGHBOUR: 'it returns false'. Refute it at one input. -/
def fnPlugsWrong : ChangeSpec := { name := "fnPlugs", fn := fun _ => fun
  | [d] => { results := [.lit (.bool false)], args := [d] }
  | _ => none }
def FnPlugsWrongFalsely : Prop := fnPlugsRow.holds Try.pinned (OpenSpec.ofChange fnPlugsWrong)

/-- 'laws.FnSleeps': WHATEVER THE INPUT: true; the input reads as it did. -/
def fnSleepsSpec : ChangeSpec := { name := "fnSleeps", fn := fun _ => fun
  | [d] => { results := [.lit (.bool true)], args := [d] }
  | _ => none }
def fnSleepsRow : OpenClaim := { program := "ytdolbkocghgibaa", sum := "99c7d71de96b3a23601af0f6af3df3a5a9972881c74d5b993cb96245efa59115", func := "loop.example/g00986/laws.FnSleeps", spec := "fnSleeps", unfollowed := true, recurses := true, apart := false }
def FnSleepsSaid : Prop := fnSleepsRow.holds Try.pinned (OpenSpec.ofChange fnSleepsSpec)

/-- ITS FALSE NEIGHBOUR: 'it returns false'. Refute it at one input. -/
def fnSleepsWrong : ChangeSpec := { name := "fnSleeps", fn := fun _ => fun
  | [d] => { results := [.lit (.bool false)], args := [d] }
  | _ => none }
def FnSleepsWrongFalsely : Prop := fnSleepsRow.holds Try.pinned (OpenSpec.ofChange fnSleepsWrong)

/-- 'laws.FnExactSlotsOf': WHATEVER THE INPUT: true; the input reads as it did. -/
def fnExactSlotsOfSpec : ChangeSpec := { name := "fnExactSlotsOf", fn := fun _ => fun
  | [d1, d2] => { results := [.lit (.bool true)], args := [d1, d2] }
  | _ => none }
def fnExactSlotsOfRow : OpenClaim := { program := "ytdolbkocghgibaa", sum := "99c7d71de96b3a23601af0f6af3df3a5a9972881c74d5b993cb96245efa59115", func := "loop.example/g00986/laws.FnExactSlotsOf", spec := "fnExactSlotsOf", unfollowed := true, recurses := true, apart := false }
def FnExactSlotsOfSaid : Prop := fnExactSlotsOfRow.holds Try.pinned (OpenSpec.ofChange fnExactSlotsOfSpec)

/-- ITS FALSE NEIGHBOUR: 'it returns false'. Refute it at one input. -/
def fnExactSlotsOfWrong : ChangeSpec := { name := "fnExactSlotsOf", fn := fun _ => fun
  | [d1, d2] => { results := [.lit (.bool false)], args := [d1, d2] }
  | _ => none }
def FnExactSlotsOfWrongFalsely : Prop := fnExactSlotsOfRow.holds Try.pinned (OpenSpec.ofChange fnExactSlotsOfWrong)

/-- 'laws.FnExactSettleSleep': WHATEVER THE INPUT: true; the input reads as it did. -/
def fnExactSettleSleepSpec : ChangeSpec := { name := "fnExactSettleSleep", fn := fun _ => fun
  | [d1, d2] => { results := [.lit (.bool true)], args := [d1, d2] }
  | _ => none }
def fnExactSettleSleepRow : OpenClaim := { program := "ytdolbkocghgibaa", sum := "99c7d71de96b3a23601af0f6af3df3a5a9972881c74d5b993cb96245efa59115", func := "loop.example/g00986/laws.FnExactSettleSleep", spec := "fnExactSettleSleep", unfollowed := true, recurses := true, apart := false }
def FnExactSettleSleepSaid : Prop := fnExactSettleSleepRow.holds Try.pinned (OpenSpec.ofChange fnExactSettleSleepSpec)

/-- ITS FALSE NEIGHBOUR: 'it returns false'. Refute it at one input. -/
def fnExactSettleSleepWrong : ChangeSpec := { name := "fnExactSettleSleep", fn := fun _ => fun
  | [d1, d2] => { results := [.lit (.bool false)], args := [d1, d2] }
  | _ => none }
def FnExactSettleSleepWrongFalsely : Prop := fnExactSettleSleepRow.holds Try.pinned (OpenSpec.ofChange fnExactSettleSleepWrong)

/-- 'laws.FnExactTranslateRange': WHATEVER THE INPUT: true; the input reads as it did. -/
def fnExactTranslateRangeSpec : ChangeSpec := { name := "fnExactTranslateRange", fn := fun _ => fun
  | [d1, d2, d3, d4, d5] => { results := [.lit (.bool true)], args := [d1, d2, d3, d4, d5] }
  | _ => none }
def fnExactTranslateRangeRow : OpenClaim := { program := "ytdolbkocghgibaa", sum := "99c7d71de96b3a23601af0f6af3df3a5a9972881c74d5b993cb96245efa59115", func := "loop.example/g00986/laws.FnExactTranslateRange", spec := "fnExactTranslateRange", unfollowed := true, recurses := true, apart := false }
def FnExactTranslateRangeSaid : Prop := fnExactTranslateRangeRow.holds Try.pinned (OpenSpec.ofChange fnExactTranslateRangeSpec)

/-- ITS FALSE NEIGHBOUR: 'it returns false'. Refute it at one input. -/
def fnExactTranslateRangeWrong : ChangeSpec := { name := "fnExactTranslateRange", fn := fun _ => fun
  | [d1, d2, d3, d4, d5] => { results := [.lit (.bool false)], args := [d1, d2, d3, d4, d5] }
  | _ => none }
def FnExactTranslateRangeWrongFalsely : Prop := fnExactTranslateRangeRow.holds Try.pinned (OpenSpec.ofChange fnExactTranslateRangeWrong)

/-- 'laws.FnExactDeepestFor': WHATEVER THE INPUT: true; the input reads as it did. -/
def fnExactDeepestForSpec : ChangeSpec := { name := "fnExactDeepestFor", fn := fun _ => fun
  | [d1, d2, d3] => { results := [.lit (.bool true)], args := [d1, d2, d3] }
  | _ => none }
def fnExactDeepestForRow : OpenClaim := { program := "ytdolbkocghgibaa", sum := "99c7d71de96b3a23601af0f6af3df3a5a9972881c74d5b993cb96245efa59115", func := "loop.example/g00986/laws.FnExactDeepestFor", spec := "fnExactDeepestFor", unfollowed := true, recurses := true, apart := false }
def FnExactDeepestForSaid : Prop := fnExactDeepestForRow.holds Try.pinned (OpenSpec.ofChange fnExactDeepestForSpec)

/-- ITS FALSE NEIGHBOUR: 'it returns false'. Refute it at one input. -/
def fnExactDeepestForWrong : ChangeSpec := { name := "fnExactDeepestFor", fn := fun _ => fun
  | [d1, d2, d3] => { results := [.lit (.bool false)], args := [d1, d2, d3] }
  | _ => none }
def FnExactDeepestForWrongFalsely : Prop := fnExactDeepestForRow.holds Try.pinned (OpenSpec.ofChange fnExactDeepestForWrong)

/-- 'laws.FnWakes': WHATEVER THE INPUT: true; the input reads as it did. -/
def fnWakesSpec : ChangeSpec := { name := "fnWakes", fn := fun _ => fun
  | [d] => { results := [.lit (.bool true)], args := [d] }
  | _ => none }
def fnWakesRow : OpenClaim := { program := "ytdolbkocghgibaa", sum := "99c7d71de96b3a23601af0f6af3df3a5a9972881c74d5b993cb96245efa59115", func := "loop.example/g00986/laws.FnWakes", spec := "fnWakes", unfollowed := true, recurses := true, apart := false }
def FnWakesSaid : Prop := fnWakesRow.holds Try.pinned (OpenSpec.ofChange fnWakesSpec)

/-- ITS FALSE NEIGHBOUR: 'it returns false'. Refute it at one input. -/
def fnWakesWrong : ChangeSpec := { name := "fnWakes", fn := fun _ => fun
  | [d] => { results := [.lit (.bool false)], args := [d] }
  | _ => none }
def FnWakesWrongFalsely : Prop := fnWakesRow.holds Try.pinned (OpenSpec.ofChange fnWakesWrong)

/-- 'laws.FnExactSetSleep': WHATEVER THE INPUT: true; the input reads as it did. -/
def fnExactSetSleepSpec : ChangeSpec := { name := "fnExactSetSleep", fn := fun _ => fun
  | [d1, d2, d3, d4] => { results := [.lit (.bool true)], args := [d1, d2, d3, d4] }
  | _ => none }
def fnExactSetSleepRow : OpenClaim := { program := "ytdolbkocghgibaa", sum := "99c7d71de96b3a23601af0f6af3df3a5a9972881c74d5b993cb96245efa59115", func := "loop.example/g00986/laws.FnExactSetSleep", spec := "fnExactSetSleep", unfollowed := true, recurses := true, apart := false }
def FnExactSetSleepSaid : Prop := fnExactSetSleepRow.holds Try.pinned (OpenSpec.ofChange fnExactSetSleepSpec)

/-- ITS FALSE NEIGHBOUR: 'it returns false'. Refute it at one input. -/
def fnExactSetSleepWrong : ChangeSpec := { name := "fnExactSetSleep", fn := fun _ => fun
  | [d1, d2, d3, d4] => { results := [.lit (.bool false)], args := [d1, d2, d3, d4] }
  | _ => none }
def FnExactSetSleepWrongFalsely : Prop := fnExactSetSleepRow.holds Try.pinned (OpenSpec.ofChange fnExactSetSleepWrong)

/-- 'laws.FnExactWakeNode': WHATEVER THE INPUT: true; the input reads as it did. -/
def fnExactWakeNodeSpec : ChangeSpec := { name := "fnExactWakeNode", fn := fun _ => fun
  | [d1, d2, d3] => { results := [.lit (.bool true)], args := [d1, d2, d3] }
  | _ => none }
def fnExactWakeNodeRow : OpenClaim := { program := "ytdolbkocghgibaa", sum := "99c7d71de96b3a23601af0f6af3df3a5a9972881c74d5b993cb96245efa59115", func := "loop.example/g00986/laws.FnExactWakeNode", spec := "fnExactWakeNode", unfollowed := true, recurses := true, apart := false }
def FnExactWakeNodeSaid : Prop := fnExactWakeNodeRow.holds Try.pinned (OpenSpec.ofChange fnExactWakeNodeSpec)

/-- ITS FALSE NEIGHBOUR: 'it returns false'. Refute it at one input. -/
def fnExactWakeNodeWrong : ChangeSpec := { name := "fnExactWakeNode", fn := fun _ => fun
  | [d1, d2, d3] => { results := [.lit (.bool false)], args := [d1, d2, d3] }
  | _ => none }
def FnExactWakeNodeWrongFalsely : Prop := fnExactWakeNodeRow.holds Try.pinned (OpenSpec.ofChange fnExactWakeNodeWrong)

/-- 'laws.FnExactRemoveNode': WHATEVER THE INPUT: true; the input reads as it did. -/
def fnExactRemoveNodeSpec : ChangeSpec := { name := "fnExactRemoveNode", fn := fun _ => fun
  | [d1, d2] => { results := [.lit (.bool true)], args := [d1, d2] }
  | _ => none }
def fnExactRemoveNodeRow : OpenClaim := { program := "ytdolbkocghgibaa", sum := "99c7d71de96b3a23601af0f6af3df3a5a9972881c74d5b993cb96245efa59115", func := "loop.example/g00986/laws.FnExactRemoveNode", spec := "fnExactRemoveNode", unfollowed := true, recurses := true, apart := false }
def FnExactRemoveNodeSaid : Prop := fnExactRemoveNodeRow.holds Try.pinned (OpenSpec.ofChange fnExactRemoveNodeSpec)

/-- ITS FALSE NEIGHBOUR: 'it returns false'. Refute it at one input. -/
def fnExactRemoveNodeWrong : ChangeSpec := { name := "fnExactRemoveNode", fn := fun _ => fun
  | [d1, d2] => { results := [.lit (.bool false)], args := [d1, d2] }
  | _ => none }
def FnExactRemoveNodeWrongFalsely : Prop := fnExactRemoveNodeRow.holds Try.pinned (OpenSpec.ofChange fnExactRemoveNodeWrong)

/-- 'laws.FnSlots': WHATEVER THE INPUT: true; the input reads as it did. -/
def fnSlotsSpec : ChangeSpec := { name := "fnSlots", fn := fun _ => fun
  | [d] => { results := [.lit (.bool true)], args := [d] }
  | _ => none }
def fnSlotsRow : OpenClaim := { program := "ytdolbkocghgibaa", sum := "99c7d71de96b3a23601af0f6af3df3a5a9972881c74d5b993cb96245efa59115", func := "loop.example/g00986/laws.FnSlots", spec := "fnSlots", unfollowed := true, recurses := true, apart := false }
def FnSlotsSaid : Prop := fnSlotsRow.holds Try.pinned (OpenSpec.ofChange fnSlotsSpec)

/-- ITS FALSE NEIGHBOUR: 'it returns false'. Refute it at one input. -/
def fnSlotsWrong : ChangeSpec := { name := "fnSlots", fn := fun _ => fun
  | [d] => { results := [.lit (.bool false)], args := [d] }
  | _ => none }
def FnSlotsWrongFalsely : Prop := fnSlotsRow.holds Try.pinned (OpenSpec.ofChange fnSlotsWrong)

/- THE SECOND FORM. 'bulk': how many values and letters a reading holds, each counted each time it is reached (what is shared counts as often as it is met; a slice's spare places count too). A statement '..UptoSaid' is the law's where the arguments, and the package variables that the reading takes, are together of bulk at most 1048576: NARROWER than '..Said'. Prove '..Said' where nothing that the law and all that it calls make is longer than what came in: it says more and counts as full. Else prove '..UptoSaid'. A law counts once. -/
mutual
def uptoBulk {H : Type} : DataW H → Nat
  | .lit (.string bytes) => bytes.length + 1
  | .lit _ => 1
  | .nil => 1
  | .ptr d => uptoBulk d + 1
  | .slice elems spare => uptoBulkAll elems + uptoBulkAll spare + 1
  | .agg parts => uptoBulkAll parts + 1
  | .iface _ d => uptoBulk d + 1
  | .map entries => uptoBulkEntries entries + 1
  | .held _ => 1
def uptoBulkAll {H : Type} : List (DataW H) → Nat
  | [] => 0
  | d :: r => uptoBulk d + uptoBulkAll r
def uptoBulkEntries {H : Type} : List (Lit × DataW H) → Nat
  | [] => 0
  | x :: r => uptoBulkEntry x + uptoBulkEntries r
def uptoBulkEntry {H : Type} : Lit × DataW H → Nat
  | (.string bytes, d) => bytes.length + uptoBulk d + 1
  | (_, d) => uptoBulk d + 1
 end
def uptoSmall : (H : Type) → List (DataW H) → Bool := fun _ ds => decide (uptoBulkAll ds ≤ 1048576)
def OpenSpec.upto (s : _root_.Go.ChangeSpec) : _root_.Go.OpenSpec := { _root_.Go.OpenSpec.ofChange s with cond := some uptoSmall }

/-- 'laws.FnExactSameTree', WHERE WHAT IT READS IS OF BULK AT MOST 1048576: true; the input reads as it did. -/
def fnExactSameTreeUptoRow : OpenClaim := { program := "ytdolbkocghgibaa", sum := "99c7d71de96b3a23601af0f6af3df3a5a9972881c74d5b993cb96245efa59115", func := "loop.example/g00986/laws.FnExactSameTree", spec := "fnExactSameTree", apart := false, narrowed := true }
def FnExactSameTreeUptoSaid : Prop := fnExactSameTreeUptoRow.holds Try.pinned (OpenSpec.upto fnExactSameTreeSpec)

/-- 'laws.FnExactGrantsOk', WHERE WHAT IT READS IS OF BULK AT MOST 1048576: true; the input reads as it did. -/
def fnExactGrantsOkUptoRow : OpenClaim := { program := "ytdolbkocghgibaa", sum := "99c7d71de96b3a23601af0f6af3df3a5a9972881c74d5b993cb96245efa59115", func := "loop.example/g00986/laws.FnExactGrantsOk", spec := "fnExactGrantsOk", unfollowed := true, recurses := true, apart := false, narrowed := true }
def FnExactGrantsOkUptoSaid : Prop := fnExactGrantsOkUptoRow.holds Try.pinned (OpenSpec.upto fnExactGrantsOkSpec)

/-- 'laws.FnVirtuals', WHERE WHAT IT READS IS OF BULK AT MOST 1048576: true; the input reads as it did. -/
def fnVirtualsUptoRow : OpenClaim := { program := "ytdolbkocghgibaa", sum := "99c7d71de96b3a23601af0f6af3df3a5a9972881c74d5b993cb96245efa59115", func := "loop.example/g00986/laws.FnVirtuals", spec := "fnVirtuals", apart := false, narrowed := true }
def FnVirtualsUptoSaid : Prop := fnVirtualsUptoRow.holds Try.pinned (OpenSpec.upto fnVirtualsSpec)

/-- 'laws.FnExactVirtualIds', WHERE WHAT IT READS IS OF BULK AT MOST 1048576: true; the input reads as it did. -/
def fnExactVirtualIdsUptoRow : OpenClaim := { program := "ytdolbkocghgibaa", sum := "99c7d71de96b3a23601af0f6af3df3a5a9972881c74d5b993cb96245efa59115", func := "loop.example/g00986/laws.FnExactVirtualIds", spec := "fnExactVirtualIds", apart := false, narrowed := true }
def FnExactVirtualIdsUptoSaid : Prop := fnExactVirtualIdsUptoRow.holds Try.pinned (OpenSpec.upto fnExactVirtualIdsSpec)

/-- 'laws.FnExactIsIsolated', WHERE WHAT IT READS IS OF BULK AT MOST 1048576: true; the input reads as it did. -/
def fnExactIsIsolatedUptoRow : OpenClaim := { program := "ytdolbkocghgibaa", sum := "99c7d71de96b3a23601af0f6af3df3a5a9972881c74d5b993cb96245efa59115", func := "loop.example/g00986/laws.FnExactIsIsolated", spec := "fnExactIsIsolated", unfollowed := true, recurses := true, apart := false, narrowed := true }
def FnExactIsIsolatedUptoSaid : Prop := fnExactIsIsolatedUptoRow.holds Try.pinned (OpenSpec.upto fnExactIsIsolatedSpec)

/-- 'laws.FnExactTranslate', WHERE WHAT IT READS IS OF BULK AT MOST 1048576: true; the input reads as it did. -/
def fnExactTranslateUptoRow : OpenClaim := { program := "ytdolbkocghgibaa", sum := "99c7d71de96b3a23601af0f6af3df3a5a9972881c74d5b993cb96245efa59115", func := "loop.example/g00986/laws.FnExactTranslate", spec := "fnExactTranslate", unfollowed := true, recurses := true, apart := false, narrowed := true }
def FnExactTranslateUptoSaid : Prop := fnExactTranslateUptoRow.holds Try.pinned (OpenSpec.upto fnExactTranslateSpec)

/-- 'laws.FnRanges', WHERE WHAT IT READS IS OF BULK AT MOST 1048576: true; the input reads as it did. -/
def fnRangesUptoRow : OpenClaim := { program := "ytdolbkocghgibaa", sum := "99c7d71de96b3a23601af0f6af3df3a5a9972881c74d5b993cb96245efa59115", func := "loop.example/g00986/laws.FnRanges", spec := "fnRanges", unfollowed := true, recurses := true, apart := false, narrowed := true }
def FnRangesUptoSaid : Prop := fnRangesUptoRow.holds Try.pinned (OpenSpec.upto fnRangesSpec)

/-- 'laws.FnExactRevokePage', WHERE WHAT IT READS IS OF BULK AT MOST 1048576: true; the input reads as it did. -/
def fnExactRevokePageUptoRow : OpenClaim := { program := "ytdolbkocghgibaa", sum := "99c7d71de96b3a23601af0f6af3df3a5a9972881c74d5b993cb96245efa59115", func := "loop.example/g00986/laws.FnExactRevokePage", spec := "fnExactRevokePage", unfollowed := true, recurses := true, apart := false, narrowed := true }
def FnExactRevokePageUptoSaid : Prop := fnExactRevokePageUptoRow.holds Try.pinned (OpenSpec.upto fnExactRevokePageSpec)

/-- 'laws.FnTranslations', WHERE WHAT IT READS IS OF BULK AT MOST 1048576: true; the input reads as it did. -/
def fnTranslationsUptoRow : OpenClaim := { program := "ytdolbkocghgibaa", sum := "99c7d71de96b3a23601af0f6af3df3a5a9972881c74d5b993cb96245efa59115", func := "loop.example/g00986/laws.FnTranslations", spec := "fnTranslations", unfollowed := true, recurses := true, apart := false, narrowed := true }
def FnTranslationsUptoSaid : Prop := fnTranslationsUptoRow.holds Try.pinned (OpenSpec.upto fnTranslationsSpec)

/-- 'laws.FnExactAddNode', WHERE WHAT IT READS IS OF BULK AT MOST 1048576: true; the input reads as it did. -/
def fnExactAddNodeUptoRow : OpenClaim := { program := "ytdolbkocghgibaa", sum := "99c7d71de96b3a23601af0f6af3df3a5a9972881c74d5b993cb96245efa59115", func := "loop.example/g00986/laws.FnExactAddNode", spec := "fnExactAddNode", unfollowed := true, recurses := true, apart := false, narrowed := true }
def FnExactAddNodeUptoSaid : Prop := fnExactAddNodeUptoRow.holds Try.pinned (OpenSpec.upto fnExactAddNodeSpec)

/-- 'laws.FnExactSleepOk', WHERE WHAT IT READS IS OF BULK AT MOST 1048576: true; the input reads as it did. -/
def fnExactSleepOkUptoRow : OpenClaim := { program := "ytdolbkocghgibaa", sum := "99c7d71de96b3a23601af0f6af3df3a5a9972881c74d5b993cb96245efa59115", func := "loop.example/g00986/laws.FnExactSleepOk", spec := "fnExactSleepOk", unfollowed := true, recurses := true, apart := false, narrowed := true }
def FnExactSleepOkUptoSaid : Prop := fnExactSleepOkUptoRow.holds Try.pinned (OpenSpec.upto fnExactSleepOkSpec)

/-- 'laws.FnPlugs', WHERE WHAT IT READS IS OF BULK AT MOST 1048576: true; the input reads as it did. -/
def fnPlugsUptoRow : OpenClaim := { program := "ytdolbkocghgibaa", sum := "99c7d71de96b3a23601af0f6af3df3a5a9972881c74d5b993cb96245efa59115", func := "loop.example/g00986/laws.FnPlugs", spec := "fnPlugs", unfollowed := true, recurses := true, apart := false, narrowed := true }
def FnPlugsUptoSaid : Prop := fnPlugsUptoRow.holds Try.pinned (OpenSpec.upto fnPlugsSpec)

/-- 'laws.FnSleeps', WHERE WHAT IT READS IS OF BULK AT MOST 1048576: true; the input reads as it did. -/
def fnSleepsUptoRow : OpenClaim := { program := "ytdolbkocghgibaa", sum := "99c7d71de96b3a23601af0f6af3df3a5a9972881c74d5b993cb96245efa59115", func := "loop.example/g00986/laws.FnSleeps", spec := "fnSleeps", unfollowed := true, recurses := true, apart := false, narrowed := true }
def FnSleepsUptoSaid : Prop := fnSleepsUptoRow.holds Try.pinned (OpenSpec.upto fnSleepsSpec)

/-- 'laws.FnExactSlotsOf', WHERE WHAT IT READS IS OF BULK AT MOST 1048576: true; the input reads as it did. -/
def fnExactSlotsOfUptoRow : OpenClaim := { program := "ytdolbkocghgibaa", sum := "99c7d71de96b3a23601af0f6af3df3a5a9972881c74d5b993cb96245efa59115", func := "loop.example/g00986/laws.FnExactSlotsOf", spec := "fnExactSlotsOf", unfollowed := true, recurses := true, apart := false, narrowed := true }
def FnExactSlotsOfUptoSaid : Prop := fnExactSlotsOfUptoRow.holds Try.pinned (OpenSpec.upto fnExactSlotsOfSpec)

/-- 'laws.FnExactSettleSleep', WHERE WHAT IT READS IS OF BULK AT MOST 1048576: true; the input reads as it did. -/
def fnExactSettleSleepUptoRow : OpenClaim := { program := "ytdolbkocghgibaa", sum := "99c7d71de96b3a23601af0f6af3df3a5a9972881c74d5b993cb96245efa59115", func := "loop.example/g00986/laws.FnExactSettleSleep", spec := "fnExactSettleSleep", unfollowed := true, recurses := true, apart := false, narrowed := true }
def FnExactSettleSleepUptoSaid : Prop := fnExactSettleSleepUptoRow.holds Try.pinned (OpenSpec.upto fnExactSettleSleepSpec)

/-- 'laws.FnExactTranslateRange', WHERE WHAT IT READS IS OF BULK AT MOST 1048576: true; the input reads as it did. -/
def fnExactTranslateRangeUptoRow : OpenClaim := { program := "ytdolbkocghgibaa", sum := "99c7d71de96b3a23601af0f6af3df3a5a9972881c74d5b993cb96245efa59115", func := "loop.example/g00986/laws.FnExactTranslateRange", spec := "fnExactTranslateRange", unfollowed := true, recurses := true, apart := false, narrowed := true }
def FnExactTranslateRangeUptoSaid : Prop := fnExactTranslateRangeUptoRow.holds Try.pinned (OpenSpec.upto fnExactTranslateRangeSpec)

/-- 'laws.FnExactDeepestFor', WHERE WHAT IT READS IS OF BULK AT MOST 1048576: true; the input reads as it did. -/
def fnExactDeepestForUptoRow : OpenClaim := { program := "ytdolbkocghgibaa", sum := "99c7d71de96b3a23601af0f6af3df3a5a9972881c74d5b993cb96245efa59115", func := "loop.example/g00986/laws.FnExactDeepestFor", spec := "fnExactDeepestFor", unfollowed := true, recurses := true, apart := false, narrowed := true }
def FnExactDeepestForUptoSaid : Prop := fnExactDeepestForUptoRow.holds Try.pinned (OpenSpec.upto fnExactDeepestForSpec)

/-- 'laws.FnWakes', WHERE WHAT IT READS IS OF BULK AT MOST 1048576: true; the input reads as it did. -/
def fnWakesUptoRow : OpenClaim := { program := "ytdolbkocghgibaa", sum := "99c7d71de96b3a23601af0f6af3df3a5a9972881c74d5b993cb96245efa59115", func := "loop.example/g00986/laws.FnWakes", spec := "fnWakes", unfollowed := true, recurses := true, apart := false, narrowed := true }
def FnWakesUptoSaid : Prop := fnWakesUptoRow.holds Try.pinned (OpenSpec.upto fnWakesSpec)

/-- 'laws.FnExactSetSleep', WHERE WHAT IT READS IS OF BULK AT MOST 1048576: true; the input reads as it did. -/
def fnExactSetSleepUptoRow : OpenClaim := { program := "ytdolbkocghgibaa", sum := "99c7d71de96b3a23601af0f6af3df3a5a9972881c74d5b993cb96245efa59115", func := "loop.example/g00986/laws.FnExactSetSleep", spec := "fnExactSetSleep", unfollowed := true, recurses := true, apart := false, narrowed := true }
def FnExactSetSleepUptoSaid : Prop := fnExactSetSleepUptoRow.holds Try.pinned (OpenSpec.upto fnExactSetSleepSpec)

/-- 'laws.FnExactWakeNode', WHERE WHAT IT READS IS OF BULK AT MOST 1048576: true; the input reads as it did. -/
def fnExactWakeNodeUptoRow : OpenClaim := { program := "ytdolbkocghgibaa", sum := "99c7d71de96b3a23601af0f6af3df3a5a9972881c74d5b993cb96245efa59115", func := "loop.example/g00986/laws.FnExactWakeNode", spec := "fnExactWakeNode", unfollowed := true, recurses := true, apart := false, narrowed := true }
def FnExactWakeNodeUptoSaid : Prop := fnExactWakeNodeUptoRow.holds Try.pinned (OpenSpec.upto fnExactWakeNodeSpec)

/-- 'laws.FnExactRemoveNode', WHERE WHAT IT READS IS OF BULK AT MOST 1048576: true; the input reads as it did. -/
def fnExactRemoveNodeUptoRow : OpenClaim := { program := "ytdolbkocghgibaa", sum := "99c7d71de96b3a23601af0f6af3df3a5a9972881c74d5b993cb96245efa59115", func := "loop.example/g00986/laws.FnExactRemoveNode", spec := "fnExactRemoveNode", unfollowed := true, recurses := true, apart := false, narrowed := true }
def FnExactRemoveNodeUptoSaid : Prop := fnExactRemoveNodeUptoRow.holds Try.pinned (OpenSpec.upto fnExactRemoveNodeSpec)

/-- 'laws.FnSlots', WHERE WHAT IT READS IS OF BULK AT MOST 1048576: true; the input reads as it did. -/
def fnSlotsUptoRow : OpenClaim := { program := "ytdolbkocghgibaa", sum := "99c7d71de96b3a23601af0f6af3df3a5a9972881c74d5b993cb96245efa59115", func := "loop.example/g00986/laws.FnSlots", spec := "fnSlots", unfollowed := true, recurses := true, apart := false, narrowed := true }
def FnSlotsUptoSaid : Prop := fnSlotsUptoRow.holds Try.pinned (OpenSpec.upto fnSlotsSpec)

end Rows
end Go.Proofs.Ytdolbkocghgibaa

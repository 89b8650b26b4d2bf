-- Written by a program of this session (wip/prt.sh): Lean checks it.
import Derived.Test.YteeklekfafedcaaProg
import Derived.Below
import Derived.Deep.Draws
import Derived.Deep.AppendLies
import Derived.Maps.AppendAt
import Derived.OwnWalk
import Derived.Laws.BytesArg
import Derived.Laws.MakeOwn
import Derived.Laws.OwnMore
import Derived.Deep.OwnRows
import Derived.Tactics
import Derived.Lib.ConvBytes
import Derived.Laws.Slices
import Derived.WalkKit
import Derived.KernelRfl
import Derived.RowKit3
import Derived.Deep.LoopGhost
import Derived.Deep.QuietTactic
import Derived.BigQuiet
import Derived.WideLaws
import Derived.Deep.DeepCutAuto
import Derived.Deep.CutBlock
import Derived.Deep.RegionHeld3
import Derived.Laws.Rows
import Derived.Lib.AppendStr
import Derived.ArgAppend
import Derived.Laws.IdiomCopy
import Derived.OrdersHeld
import Derived.Laws.BitsLemmas
import Derived.RowKit
import Derived.WalkSpells
import Derived.Lib.LazyBuf
import Derived.Test.YteeklekfafedcaaWWords
import Derived.Test.YteeklekfafedcaaWLast
import Derived.Test.YteeklekfafedcaaWTab
import Derived.Test.YteeklekfafedcaaWFour
import Derived.Test.YteeklekfafedcaaWQPut
import Derived.Test.YteeklekfafedcaaWApart
import Derived.Test.YteeklekfafedcaaWArr
import Derived.Test.YteeklekfafedcaaWZeros
import Derived.Test.YteeklekfafedcaaWFoot
import Derived.Test.YteeklekfafedcaaWKept
import Derived.Test.YteeklekfafedcaaWShare
import Derived.Test.YteeklekfafedcaaWN
import Derived.Test.YteeklekfafedcaaWFootNe
import Derived.Test.YteeklekfafedcaaWAt
import Derived.Test.YteeklekfafedcaaWEqStruct
import Derived.Test.YteeklekfafedcaaWRepsOne
import Derived.Test.YteeklekfafedcaaWInv
import Derived.Test.YteeklekfafedcaaWInvWords
import Derived.Test.YteeklekfafedcaaWGuard
import Derived.Test.YteeklekfafedcaaWNEv
import Derived.Test.YteeklekfafedcaaWMore
import Derived.Test.YteeklekfafedcaaHof
namespace Go.Proofs.Yteeklekfafedcaa.PFnVirtuals
open Go.RowKit Go.Proofs.YteeklekfafedcaaW.PrintWords Go.Proofs.YteeklekfafedcaaW.PrintLast Go.Proofs.YteeklekfafedcaaW.PrintMore
attribute [local go_sem] max2_int min2_int max_two min_two max_three min_three max_four min_four   -- for this text's walks alone
set_option linter.unusedVariables false
set_option linter.unusedSimpArgs false



def errW : Option Int → Value
  | none => .nilIface
  | some c => .iface 0 (.int .i64 c)
theorem errW_none : errW none = .nilIface := rfl
theorem errW_some (c : Int) : errW (some c) = .iface 0 (.int .i64 c) := rfl

theorem info3 : (Try.prog.info? 3).map (fun i => (i.zero, i.size, i.bytes)) = some (some (.int .i64 0), 1, 8) := by kernel_rfl
-- the values' own types

end Go.Proofs.Yteeklekfafedcaa.PFnVirtuals

-- Laid by this session's own program (wip/gen/myprint.py) over the kit's print; turned to this claim.
import Derived.Test.YtlnjbkgplogmiaaProg
import Derived.Below
import Derived.Deep.Draws
import Derived.Deep.AppendLies
import Derived.Maps.AppendAt
import Derived.OwnWalk
import Derived.Laws.BytesArg
import Derived.Laws.MakeOwn
import Derived.Laws.OwnMore
import Derived.Deep.OwnRows
import Derived.Tactics
import Derived.Lib.ConvBytes
import Derived.Laws.Slices
import Derived.WalkKit
import Derived.KernelRfl
import Derived.RowKit3
import Derived.Deep.LoopGhost
import Derived.Deep.QuietTactic
import Derived.BigQuiet
import Derived.WideLaws
import Derived.Deep.DeepCutAuto
import Derived.Deep.CutBlock
import Derived.Deep.RegionHeld3
import Derived.Laws.Rows
import Derived.Lib.AppendStr
import Derived.ArgAppend
import Derived.Laws.IdiomCopy
import Derived.OrdersHeld
import Derived.Laws.BitsLemmas
import Derived.RowKit
import Derived.Test.YtlnjbkgplogmiaaWWords
import Derived.Test.YtlnjbkgplogmiaaWLast
import Derived.Test.YtlnjbkgplogmiaaWTab
import Derived.Test.YtlnjbkgplogmiaaWFour
import Derived.Test.YtlnjbkgplogmiaaWQPut
import Derived.Test.YtlnjbkgplogmiaaWApart
import Derived.Test.YtlnjbkgplogmiaaWArr
import Derived.Test.YtlnjbkgplogmiaaWZeros
import Derived.Test.YtlnjbkgplogmiaaWFoot
import Derived.Test.YtlnjbkgplogmiaaWKept
import Derived.Test.YtlnjbkgplogmiaaWShare
import Derived.Test.YtlnjbkgplogmiaaWN
import Derived.Test.YtlnjbkgplogmiaaWFootNe
import Derived.Test.YtlnjbkgplogmiaaWAt
import Derived.Test.YtlnjbkgplogmiaaWEqStruct
import Derived.Test.YtlnjbkgplogmiaaWRepsOne
import Derived.Test.YtlnjbkgplogmiaaWInv
import Derived.Test.YtlnjbkgplogmiaaWInvWords
import Derived.Test.YtlnjbkgplogmiaaWGuard
import Derived.Test.YtlnjbkgplogmiaaWNEv
import Derived.Test.YtlnjbkgplogmiaaWMore
namespace Go.Proofs.Ytlnjbkgplogmiaa.PFnExactChangeValue
open Go.RowKit Go.Proofs.YtlnjbkgplogmiaaW.PrintWords Go.Proofs.YtlnjbkgplogmiaaW.PrintLast Go.Proofs.YtlnjbkgplogmiaaW.PrintMore
attribute [local go_sem] max2_int min2_int max_two min_two max_three min_three max_four min_four   -- for this text's walks alone
set_option linter.unusedVariables false
set_option linter.unusedSimpArgs false



def errW : Option Int → Value
  | none => .nilIface
  | some c => .iface 0 (.int .i64 c)
theorem errW_none : errW none = .nilIface := rfl
theorem errW_some (c : Int) : errW (some c) = .iface 0 (.int .i64 c) := rfl

theorem info3 : (Try.prog.info? 3).map (fun i => (i.zero, i.size, i.bytes)) = some (some (.int .i64 0), 1, 8) := by kernel_rfl
-- the values' own types

end Go.Proofs.Ytlnjbkgplogmiaa.PFnExactChangeValue

-- Laid by a program of this session (pp.py) over the kit's printer; repaired and widened by hand-written contracts. Lean checks it.
import Derived.Test.YtchfdpmkgjblgaaProg
import Derived.Below
import Derived.Deep.Draws
import Derived.Deep.AppendLies
import Derived.Maps.AppendAt
import Derived.OwnWalk
import Derived.Laws.BytesArg
import Derived.Laws.MakeOwn
import Derived.Laws.OwnMore
import Derived.Deep.OwnRows
import Derived.Tactics
import Derived.Lib.ConvBytes
import Derived.Laws.Slices
import Derived.WalkKit
import Derived.KernelRfl
import Derived.RowKit3
import Derived.Deep.LoopGhost
import Derived.Deep.QuietTactic
import Derived.BigQuiet
import Derived.WideLaws
import Derived.Deep.DeepCutAuto
import Derived.Deep.CutBlock
import Derived.Deep.RegionHeld3
import Derived.Laws.Rows
import Derived.Lib.AppendStr
import Derived.ArgAppend
import Derived.Laws.IdiomCopy
import Derived.OrdersHeld
import Derived.Laws.BitsLemmas
import Derived.RowKit
import Derived.Laws.RangeString
import Derived.StillTactics
import Derived.LoopTactic
import Derived.WalkSmall
import Derived.Lib.SlBytesConst
import Derived.Test.YtchfdpmkgjblgaaWWords
import Derived.Test.YtchfdpmkgjblgaaWLast
import Derived.Test.YtchfdpmkgjblgaaWTab
import Derived.Test.YtchfdpmkgjblgaaWFour
import Derived.Test.YtchfdpmkgjblgaaWQPut
import Derived.Test.YtchfdpmkgjblgaaWApart
import Derived.Test.YtchfdpmkgjblgaaWArr
import Derived.Test.YtchfdpmkgjblgaaWZeros
import Derived.Test.YtchfdpmkgjblgaaWFoot
import Derived.Test.YtchfdpmkgjblgaaWKept
import Derived.Test.YtchfdpmkgjblgaaWShare
import Derived.Test.YtchfdpmkgjblgaaWN
import Derived.Test.YtchfdpmkgjblgaaWFootNe
import Derived.Test.YtchfdpmkgjblgaaWAt
import Derived.Test.YtchfdpmkgjblgaaWEqStruct
import Derived.Test.YtchfdpmkgjblgaaWRepsOne
import Derived.Test.YtchfdpmkgjblgaaWInv
import Derived.Test.YtchfdpmkgjblgaaWInvWords
import Derived.Test.YtchfdpmkgjblgaaWGuard
import Derived.Test.YtchfdpmkgjblgaaWNEv
import Derived.Test.YtchfdpmkgjblgaaWMore
namespace Go.Proofs.Ytchfdpmkgjblgaa.P
open Go.RowKit Go.Proofs.YtchfdpmkgjblgaaW.PrintWords Go.Proofs.YtchfdpmkgjblgaaW.PrintLast Go.Proofs.YtchfdpmkgjblgaaW.PrintMore
attribute [local go_sem] max2_int min2_int max_two min_two max_three min_three max_four min_four   -- for this text's walks alone
set_option linter.unusedVariables false
set_option linter.unusedSimpArgs false



def errW : Option Int → Value
  | none => .nilIface
  | some c => .iface 0 (.int .i64 c)
theorem errW_none : errW none = .nilIface := rfl
theorem errW_some (c : Int) : errW (some c) = .iface 0 (.int .i64 c) := rfl

theorem info5 : (Try.prog.info? 5).map (fun i => (i.zero, i.size, i.bytes)) = some (some (.int .u8 0), 1, 1) := by kernel_rfl
-- the values' own types

end Go.Proofs.Ytchfdpmkgjblgaa.P

-- PRINTED BY print.sh 35421559b90ae4d0a3588c463048766b98c2df88dd9212a6774a882060cdf62d: not written by this session
import Derived.Test.YtmedcpdjhgconaaProg
import Derived.Below
import Derived.Deep.Draws
import Derived.Deep.AppendLies
import Derived.Maps.AppendAt
import Derived.OwnWalk
import Derived.Laws.BytesArg
import Derived.Laws.MakeOwn
import Derived.Laws.OwnMore
import Derived.Deep.OwnRows
import Derived.Tactics
import Derived.Lib.ConvBytes
import Derived.Laws.Slices
import Derived.WalkKit
import Derived.KernelRfl
import Derived.RowKit3
import Derived.Deep.LoopGhost
import Derived.Deep.QuietTactic
import Derived.BigQuiet
import Derived.WideLaws
import Derived.Deep.DeepCutAuto
import Derived.Deep.CutBlock
import Derived.Deep.RegionHeld3
import Derived.Laws.Rows
import Derived.Lib.AppendStr
import Derived.ArgAppend
import Derived.Laws.IdiomCopy
import Derived.OrdersHeld
import Derived.Laws.BitsLemmas
import Derived.RowKit
import Derived.Test.YtmedcpdjhgconaaWWords
import Derived.Test.YtmedcpdjhgconaaWLast
import Derived.Test.YtmedcpdjhgconaaWTab
import Derived.Test.YtmedcpdjhgconaaWFour
import Derived.Test.YtmedcpdjhgconaaWQPut
import Derived.Test.YtmedcpdjhgconaaWApart
import Derived.Test.YtmedcpdjhgconaaWArr
import Derived.Test.YtmedcpdjhgconaaWZeros
import Derived.Test.YtmedcpdjhgconaaWFoot
import Derived.Test.YtmedcpdjhgconaaWKept
import Derived.Test.YtmedcpdjhgconaaWShare
import Derived.Test.YtmedcpdjhgconaaWN
import Derived.Test.YtmedcpdjhgconaaWFootNe
import Derived.Test.YtmedcpdjhgconaaWAt
import Derived.Test.YtmedcpdjhgconaaWEqStruct
import Derived.Test.YtmedcpdjhgconaaWRepsOne
import Derived.Test.YtmedcpdjhgconaaWInv
import Derived.Test.YtmedcpdjhgconaaWInvWords
import Derived.Test.YtmedcpdjhgconaaWGuard
import Derived.Test.YtmedcpdjhgconaaWNEv
import Derived.Test.YtmedcpdjhgconaaWMore
namespace Go.Proofs.Ytmedcpdjhgconaa.PFnExactRootOfFloat
open Go.RowKit Go.Proofs.YtmedcpdjhgconaaW.PrintWords Go.Proofs.YtmedcpdjhgconaaW.PrintLast Go.Proofs.YtmedcpdjhgconaaW.PrintMore
attribute [local go_sem] max2_int min2_int max_two min_two max_three min_three max_four min_four   -- for this text's walks alone
set_option linter.unusedVariables false
set_option linter.unusedSimpArgs false



def errW : Option Int → Value
  | none => .nilIface
  | some c => .iface 0 (.int .i64 c)
theorem errW_none : errW none = .nilIface := rfl
theorem errW_some (c : Int) : errW (some c) = .iface 0 (.int .i64 c) := rfl

theorem info2 : (Try.prog.info? 2).map (fun i => (i.zero, i.size, i.bytes)) = some (some (.int .i64 0), 1, 8) := by kernel_rfl
-- the values' own types

end Go.Proofs.Ytmedcpdjhgconaa.PFnExactRootOfFloat

-- PRINTED by print.py (a twelfth state) out of the translation. Not trusted: Lean checks it.
import Derived.Test.YtlnebmeccgohaaaProg
import Derived.Below
import Derived.Deep.Draws
import Derived.Deep.AppendLies
import Derived.Maps.AppendAt
import Derived.OwnWalk
import Derived.Laws.BytesArg
import Derived.Laws.MakeOwn
import Derived.Laws.OwnMore
import Derived.Deep.OwnRows
import Derived.Tactics
import Derived.Lib.ConvBytes
import Derived.Laws.Slices
import Derived.WalkKit
import Derived.KernelRfl
import Derived.RowKit3
import Derived.Deep.LoopGhost
import Derived.Deep.QuietTactic
import Derived.BigQuiet
import Derived.WideLaws
import Derived.Deep.DeepCutAuto
import Derived.Deep.CutBlock
import Derived.Deep.RegionHeld3
import Derived.Laws.Rows
import Derived.Lib.AppendStr
import Derived.ArgAppend
import Derived.Laws.IdiomCopy
import Derived.OrdersHeld
import Derived.Laws.BitsLemmas
import Derived.RowKit
import Derived.Test.YtlnebmeccgohaaaWWords
import Derived.Test.YtlnebmeccgohaaaWLast
import Derived.Test.YtlnebmeccgohaaaWTab
import Derived.Test.YtlnebmeccgohaaaWFour
import Derived.Test.YtlnebmeccgohaaaWQPut
import Derived.Test.YtlnebmeccgohaaaWApart
import Derived.Test.YtlnebmeccgohaaaWArr
import Derived.Test.YtlnebmeccgohaaaWZeros
import Derived.Test.YtlnebmeccgohaaaWFoot
import Derived.Test.YtlnebmeccgohaaaWKept
import Derived.Test.YtlnebmeccgohaaaWShare
import Derived.Test.YtlnebmeccgohaaaWN
import Derived.Test.YtlnebmeccgohaaaWFootNe
import Derived.Test.YtlnebmeccgohaaaWAt
import Derived.Test.YtlnebmeccgohaaaWEqStruct
import Derived.Test.YtlnebmeccgohaaaWRepsOne
import Derived.Test.YtlnebmeccgohaaaWInv
import Derived.Test.YtlnebmeccgohaaaWInvWords
import Derived.Test.YtlnebmeccgohaaaWGuard
import Derived.Test.YtlnebmeccgohaaaWNEv
import Derived.Test.YtlnebmeccgohaaaWMore
namespace Go.Proofs.Ytlnebmeccgohaaa.P
open Go.RowKit Go.Proofs.YtlnebmeccgohaaaW.PrintWords Go.Proofs.YtlnebmeccgohaaaW.PrintLast Go.Proofs.YtlnebmeccgohaaaW.PrintMore
attribute [local go_sem] max2_int min2_int max_two min_two max_three min_three max_four min_four   -- for this text's walks alone
set_option linter.unusedVariables false
set_option linter.unusedSimpArgs false



def errW : Option Int → Value
  | none => .nilIface
  | some c => .iface 0 (.int .i64 c)
theorem errW_none : errW none = .nilIface := rfl
theorem errW_some (c : Int) : errW (some c) = .iface 0 (.int .i64 c) := rfl

theorem info3 : (Try.prog.info? 3).map (fun i => (i.zero, i.size, i.bytes)) = some (some (.int .i64 0), 1, 8) := by kernel_rfl
-- the values' own types

end Go.Proofs.Ytlnebmeccgohaaa.P

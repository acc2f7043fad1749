/- The reference's canon (redlineref03, redlineref02.Bare) as Lean functions with their contracts: written by a program out of the kit's print, turned at one spelling. -/
import Derived.Test.YtfecihlkgejjmaaDoorProg
import Derived.Below
import Derived.Deep.Draws
import Derived.Deep.AppendLies
import Derived.Maps.AppendAt
import Derived.OwnWalk
import Derived.Laws.BytesArg
import Derived.Laws.MakeOwn
import Derived.Laws.OwnMore
import Derived.Deep.OwnRows
import Derived.Tactics
import Derived.Lib.ConvBytes
import Derived.Laws.Slices
import Derived.WalkKit
import Derived.KernelRfl
import Derived.RowKit3
import Derived.Deep.LoopGhost
import Derived.Deep.QuietTactic
import Derived.BigQuiet
import Derived.WideLaws
import Derived.Deep.DeepCutAuto
import Derived.Deep.CutBlock
import Derived.Deep.RegionHeld3
import Derived.Laws.Rows
import Derived.Lib.AppendStr
import Derived.ArgAppend
import Derived.Laws.IdiomCopy
import Derived.OrdersHeld
import Derived.Laws.BitsLemmas
import Derived.RowKit
import Derived.Test.YtfecihlkgejjmaaDoorWWords
import Derived.Test.YtfecihlkgejjmaaDoorWLast
import Derived.Test.YtfecihlkgejjmaaDoorWTab
import Derived.Test.YtfecihlkgejjmaaDoorWFour
import Derived.Test.YtfecihlkgejjmaaDoorWQPut
import Derived.Test.YtfecihlkgejjmaaDoorWApart
import Derived.Test.YtfecihlkgejjmaaDoorWArr
import Derived.Test.YtfecihlkgejjmaaDoorWZeros
import Derived.Test.YtfecihlkgejjmaaDoorWFoot
import Derived.Test.YtfecihlkgejjmaaDoorWKept
import Derived.Test.YtfecihlkgejjmaaDoorWShare
import Derived.Test.YtfecihlkgejjmaaDoorWN
import Derived.Test.YtfecihlkgejjmaaDoorWFootNe
import Derived.Test.YtfecihlkgejjmaaDoorWAt
import Derived.Test.YtfecihlkgejjmaaDoorWEqStruct
import Derived.Test.YtfecihlkgejjmaaDoorWRepsOne
import Derived.Test.YtfecihlkgejjmaaDoorWInv
import Derived.Test.YtfecihlkgejjmaaDoorWInvWords
import Derived.Test.YtfecihlkgejjmaaDoorWGuard
import Derived.Test.YtfecihlkgejjmaaDoorWNEv
import Derived.Test.YtfecihlkgejjmaaDoorWMore
namespace Go.Proofs.YtfecihlkgejjmaaDoor.R03
open Go.RowKit Go.Proofs.YtfecihlkgejjmaaDoorW.PrintWords Go.Proofs.YtfecihlkgejjmaaDoorW.PrintLast Go.Proofs.YtfecihlkgejjmaaDoorW.PrintMore
attribute [local go_sem] max2_int min2_int max_two min_two max_three min_three max_four min_four   -- for this text's walks alone
set_option linter.unusedVariables false
set_option linter.unusedSimpArgs false



def errW : Option Int → Value
  | none => .nilIface
  | some c => .iface 0 (.int .i64 c)
theorem errW_none : errW none = .nilIface := rfl
theorem errW_some (c : Int) : errW (some c) = .iface 0 (.int .i64 c) := rfl

theorem info5 : (Tryd.prog.info? 5).map (fun i => (i.zero, i.size, i.bytes)) = some (some (.int .u8 0), 1, 1) := by kernel_rfl
-- the values' own types

end Go.Proofs.YtfecihlkgejjmaaDoor.R03

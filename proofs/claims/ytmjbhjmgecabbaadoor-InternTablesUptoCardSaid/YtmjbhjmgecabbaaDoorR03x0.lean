/- The reference's canon (redlineref03, redlineref02.Bare) as Lean functions with their contracts: written by a program out of the kit's print, turned at one spelling. -/
import Derived.Test.YtmjbhjmgecabbaaDoorProg
import Derived.Below
import Derived.Deep.Draws
import Derived.Deep.AppendLies
import Derived.Maps.AppendAt
import Derived.OwnWalk
import Derived.Laws.BytesArg
import Derived.Laws.MakeOwn
import Derived.Laws.OwnMore
import Derived.Deep.OwnRows
import Derived.Tactics
import Derived.Lib.ConvBytes
import Derived.Laws.Slices
import Derived.WalkKit
import Derived.KernelRfl
import Derived.RowKit3
import Derived.Deep.LoopGhost
import Derived.Deep.QuietTactic
import Derived.BigQuiet
import Derived.WideLaws
import Derived.Deep.DeepCutAuto
import Derived.Deep.CutBlock
import Derived.Deep.RegionHeld3
import Derived.Laws.Rows
import Derived.Lib.AppendStr
import Derived.ArgAppend
import Derived.Laws.IdiomCopy
import Derived.OrdersHeld
import Derived.Laws.BitsLemmas
import Derived.RowKit
import Derived.Test.YtmjbhjmgecabbaaDoorWWords
import Derived.Test.YtmjbhjmgecabbaaDoorWLast
import Derived.Test.YtmjbhjmgecabbaaDoorWTab
import Derived.Test.YtmjbhjmgecabbaaDoorWFour
import Derived.Test.YtmjbhjmgecabbaaDoorWQPut
import Derived.Test.YtmjbhjmgecabbaaDoorWApart
import Derived.Test.YtmjbhjmgecabbaaDoorWArr
import Derived.Test.YtmjbhjmgecabbaaDoorWZeros
import Derived.Test.YtmjbhjmgecabbaaDoorWFoot
import Derived.Test.YtmjbhjmgecabbaaDoorWKept
import Derived.Test.YtmjbhjmgecabbaaDoorWShare
import Derived.Test.YtmjbhjmgecabbaaDoorWN
import Derived.Test.YtmjbhjmgecabbaaDoorWFootNe
import Derived.Test.YtmjbhjmgecabbaaDoorWAt
import Derived.Test.YtmjbhjmgecabbaaDoorWEqStruct
import Derived.Test.YtmjbhjmgecabbaaDoorWRepsOne
import Derived.Test.YtmjbhjmgecabbaaDoorWInv
import Derived.Test.YtmjbhjmgecabbaaDoorWInvWords
import Derived.Test.YtmjbhjmgecabbaaDoorWGuard
import Derived.Test.YtmjbhjmgecabbaaDoorWNEv
import Derived.Test.YtmjbhjmgecabbaaDoorWMore
namespace Go.Proofs.YtmjbhjmgecabbaaDoor.R03
open Go.RowKit Go.Proofs.YtmjbhjmgecabbaaDoorW.PrintWords Go.Proofs.YtmjbhjmgecabbaaDoorW.PrintLast Go.Proofs.YtmjbhjmgecabbaaDoorW.PrintMore
attribute [local go_sem] max2_int min2_int max_two min_two max_three min_three max_four min_four   -- for this text's walks alone
set_option linter.unusedVariables false
set_option linter.unusedSimpArgs false



def errW : Option Int → Value
  | none => .nilIface
  | some c => .iface 0 (.int .i64 c)
theorem errW_none : errW none = .nilIface := rfl
theorem errW_some (c : Int) : errW (some c) = .iface 0 (.int .i64 c) := rfl

theorem info5 : (Tryd.prog.info? 5).map (fun i => (i.zero, i.size, i.bytes)) = some (some (.int .u8 0), 1, 1) := by kernel_rfl
-- the values' own types

end Go.Proofs.YtmjbhjmgecabbaaDoor.R03

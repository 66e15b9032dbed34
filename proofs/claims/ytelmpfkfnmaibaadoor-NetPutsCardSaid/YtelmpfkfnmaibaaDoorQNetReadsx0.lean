-- Written by a program of this session (wip/tools), out of the kit's print of the loaded program: functions, and proofs that the calls come to them.
import Derived.Test.YtelmpfkfnmaibaaDoorProg
import Derived.Deep.RegionLaw
import Derived.Lib.Bytealg
import Derived.Lib.Strings
import Derived.WalkSpells
import Derived.WalkLawsBesides
import Derived.Lib.SliceRun
import Derived.Lib.SlBytesConst
import Derived.Deep.DeepMust
import Derived.Below
import Derived.Deep.Draws
import Derived.Deep.AppendLies
import Derived.Maps.AppendAt
import Derived.OwnWalk
import Derived.Laws.BytesArg
import Derived.Laws.MakeOwn
import Derived.Laws.OwnMore
import Derived.Deep.OwnRows
import Derived.Tactics
import Derived.Lib.ConvBytes
import Derived.Laws.Slices
import Derived.WalkKit
import Derived.KernelRfl
import Derived.RowKit3
import Derived.Deep.LoopGhost
import Derived.Deep.QuietTactic
import Derived.BigQuiet
import Derived.WideLaws
import Derived.Deep.DeepCutAuto
import Derived.Deep.CutBlock
import Derived.Deep.RegionHeld3
import Derived.Laws.Rows
import Derived.Lib.AppendStr
import Derived.ArgAppend
import Derived.Laws.IdiomCopy
import Derived.OrdersHeld
import Derived.Laws.BitsLemmas
import Derived.RowKit
import Derived.Test.YtelmpfkfnmaibaaDoorWHand
import Derived.Test.YtelmpfkfnmaibaaDoorWWords
import Derived.Test.YtelmpfkfnmaibaaDoorWLast
import Derived.Test.YtelmpfkfnmaibaaDoorWTab
import Derived.Test.YtelmpfkfnmaibaaDoorWFour
import Derived.Test.YtelmpfkfnmaibaaDoorWQPut
import Derived.Test.YtelmpfkfnmaibaaDoorWApart
import Derived.Test.YtelmpfkfnmaibaaDoorWArr
import Derived.Test.YtelmpfkfnmaibaaDoorWZeros
import Derived.Test.YtelmpfkfnmaibaaDoorWFoot
import Derived.Test.YtelmpfkfnmaibaaDoorWKept
import Derived.Test.YtelmpfkfnmaibaaDoorWShare
import Derived.Test.YtelmpfkfnmaibaaDoorWN
import Derived.Test.YtelmpfkfnmaibaaDoorWFootNe
import Derived.Test.YtelmpfkfnmaibaaDoorWAt
import Derived.Test.YtelmpfkfnmaibaaDoorWEqStruct
import Derived.Test.YtelmpfkfnmaibaaDoorWRepsOne
import Derived.Test.YtelmpfkfnmaibaaDoorWInv
import Derived.Test.YtelmpfkfnmaibaaDoorWInvWords
import Derived.Test.YtelmpfkfnmaibaaDoorWGuard
import Derived.Test.YtelmpfkfnmaibaaDoorWNEv
import Derived.Test.YtelmpfkfnmaibaaDoorWMore
namespace Go.Proofs.YtelmpfkfnmaibaaDoor.QNetReads
open Go.RowKit Go.Proofs.YtelmpfkfnmaibaaDoorW.PrintWords Go.Proofs.YtelmpfkfnmaibaaDoorW.PrintLast Go.Proofs.YtelmpfkfnmaibaaDoorW.PrintMore
attribute [local go_sem] max2_int min2_int max_two min_two max_three min_three max_four min_four   -- for this text's walks alone
set_option linter.unusedVariables false
set_option linter.unusedSimpArgs false



def errW : Option Int → Value
  | none => .nilIface
  | some c => .iface 0 (.int .i64 c)
theorem errW_none : errW none = .nilIface := rfl
theorem errW_some (c : Int) : errW (some c) = .iface 0 (.int .i64 c) := rfl

theorem info5 : (Tryd.prog.info? 5).map (fun i => (i.zero, i.size, i.bytes)) = some (some (.int .u8 0), 1, 1) := by kernel_rfl
-- the values' own types

end Go.Proofs.YtelmpfkfnmaibaaDoor.QNetReads

-- Written by a program of this session (wip/tools), out of the kit's print of the loaded program: functions, and proofs that the calls come to them.
import Derived.Test.YtkicekddkgehoaaDoorQMarkRowx0
import Derived.Test.YtkicekddkgehoaaDoorQMarkRowx1
import Derived.Test.YtkicekddkgehoaaDoorQMarkRowx2
import Derived.Test.YtkicekddkgehoaaDoorQMarkRowx3
import Derived.Test.YtkicekddkgehoaaDoorQMarkRowx4
namespace Go.Proofs.YtkicekddkgehoaaDoor.QMarkRow
open Go.RowKit Go.Proofs.YtkicekddkgehoaaDoorW.PrintWords Go.Proofs.YtkicekddkgehoaaDoorW.PrintLast Go.Proofs.YtkicekddkgehoaaDoorW.PrintMore
attribute [local go_sem] max2_int min2_int max_two min_two max_three min_three max_four min_four   -- for this text's walks alone
set_option linter.unusedVariables false
set_option linter.unusedSimpArgs false

end Go.Proofs.YtkicekddkgehoaaDoor.QMarkRow

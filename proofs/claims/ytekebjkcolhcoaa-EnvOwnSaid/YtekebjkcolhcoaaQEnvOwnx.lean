-- Written by a program of this session (wip/tools), out of the kit's print of the loaded program: functions, and proofs that the calls come to them.
import Derived.Test.YtekebjkcolhcoaaQEnvOwnx0
import Derived.Test.YtekebjkcolhcoaaQEnvOwnx1
import Derived.Test.YtekebjkcolhcoaaQEnvOwnx2
import Derived.Test.YtekebjkcolhcoaaQEnvOwnx3
import Derived.Test.YtekebjkcolhcoaaQEnvOwnx4
import Derived.Test.YtekebjkcolhcoaaQEnvOwnx5
namespace Go.Proofs.Ytekebjkcolhcoaa.QEnvOwn
open Go.RowKit Go.Proofs.YtekebjkcolhcoaaW.PrintWords Go.Proofs.YtekebjkcolhcoaaW.PrintLast Go.Proofs.YtekebjkcolhcoaaW.PrintMore
attribute [local go_sem] max2_int min2_int max_two min_two max_three min_three max_four min_four   -- for this text's walks alone
set_option linter.unusedVariables false
set_option linter.unusedSimpArgs false

end Go.Proofs.Ytekebjkcolhcoaa.QEnvOwn

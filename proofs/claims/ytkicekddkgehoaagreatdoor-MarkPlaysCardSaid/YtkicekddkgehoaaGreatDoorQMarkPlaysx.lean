-- Written by a program of this session (wip/tools), out of the kit's print of the loaded program: functions, and proofs that the calls come to them.
import Derived.Test.YtkicekddkgehoaaGreatDoorQMarkPlaysx0
import Derived.Test.YtkicekddkgehoaaGreatDoorQMarkPlaysx1
import Derived.Test.YtkicekddkgehoaaGreatDoorQMarkPlaysx2
import Derived.Test.YtkicekddkgehoaaGreatDoorQMarkPlaysx3
import Derived.Test.YtkicekddkgehoaaGreatDoorQMarkPlaysx4
import Derived.Test.YtkicekddkgehoaaGreatDoorQMarkPlaysx5
namespace Go.Proofs.YtkicekddkgehoaaGreatDoor.QMarkPlays
open Go.RowKit Go.Proofs.YtkicekddkgehoaaGreatDoorW.PrintWords Go.Proofs.YtkicekddkgehoaaGreatDoorW.PrintLast Go.Proofs.YtkicekddkgehoaaGreatDoorW.PrintMore
attribute [local go_sem] max2_int min2_int max_two min_two max_three min_three max_four min_four   -- for this text's walks alone
set_option linter.unusedVariables false
set_option linter.unusedSimpArgs false

end Go.Proofs.YtkicekddkgehoaaGreatDoor.QMarkPlays

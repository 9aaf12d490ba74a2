-- Written by a program of this session (wip/pr2.sh): the walk of the Go text, function by function.
import Derived.Test.YteamkjphdiajeaaQRleMembersx0
import Derived.Test.YteamkjphdiajeaaQRleMembersx1
import Derived.Test.YteamkjphdiajeaaQRleMembersx2
import Derived.Test.YteamkjphdiajeaaQRleMembersx3
namespace Go.Proofs.Yteamkjphdiajeaa.QRleMembers
open Go.RowKit Go.Proofs.YteamkjphdiajeaaW.PrintWords Go.Proofs.YteamkjphdiajeaaW.PrintLast Go.Proofs.YteamkjphdiajeaaW.PrintMore

attribute [local go_sem] max2_int min2_int max_two min_two max_three min_three max_four min_four   -- for this text's walks alone
set_option linter.unusedVariables false
set_option linter.unusedSimpArgs false

end Go.Proofs.Yteamkjphdiajeaa.QRleMembers

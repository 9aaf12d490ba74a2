/- The pure statement of RleMembers, and what its parameters are known to be. -/
import Derived.Test.YteamkjphdiajeaaQRleMembersx
import Derived.Test.YteamkjphdiajeaaM03
set_option linter.unusedVariables false
namespace Go.Proofs.Yteamkjphdiajeaa.QRleMembers
open Go Go.RowKit Go.Proofs.YteamkjphdiajeaaW.PrintWords Go.Proofs.YteamkjphdiajeaaM
end Go.Proofs.Yteamkjphdiajeaa.QRleMembers

-- Taken by a program of this session (wip/shake.py) out of the words of the print program: those that this claim uses.
import Derived.Test.YtijgbhbdmnhanaaDoorUInv
import Derived.Test.YtijgbhbdmnhanaaDoorUFootNe
namespace Go.Proofs.YtijgbhbdmnhanaaDoorW.PrintWords
open Go.RowKit
end Go.Proofs.YtijgbhbdmnhanaaDoorW.PrintWords
namespace Go.Proofs.YtijgbhbdmnhanaaDoorW.PrintLast
section
variable {ops : Array Oper} {a : Act} {o og : Oper} {g : Nat} {t : Tmp} {u : Bool}
end
end Go.Proofs.YtijgbhbdmnhanaaDoorW.PrintLast

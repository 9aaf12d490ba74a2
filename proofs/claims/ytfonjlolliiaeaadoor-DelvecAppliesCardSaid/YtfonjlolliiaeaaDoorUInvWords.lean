-- Taken by a program of this session (wip/shake.py) out of the words of the print program: those that this claim uses.
import Derived.Test.YtfonjlolliiaeaaDoorUInv
import Derived.Test.YtfonjlolliiaeaaDoorUFootNe
namespace Go.Proofs.YtfonjlolliiaeaaDoorW.PrintWords
open Go.RowKit
end Go.Proofs.YtfonjlolliiaeaaDoorW.PrintWords
namespace Go.Proofs.YtfonjlolliiaeaaDoorW.PrintLast
section
variable {ops : Array Oper} {a : Act} {o og : Oper} {g : Nat} {t : Tmp} {u : Bool}
end
end Go.Proofs.YtfonjlolliiaeaaDoorW.PrintLast

-- Taken by a program of this session (wip/shake.py) out of the words of the print program: those that this claim uses.
import Derived.Test.YtjeheopcohnkeaaUInv
import Derived.Test.YtjeheopcohnkeaaUFootNe
namespace Go.Proofs.YtjeheopcohnkeaaW.PrintWords
open Go.RowKit
end Go.Proofs.YtjeheopcohnkeaaW.PrintWords
namespace Go.Proofs.YtjeheopcohnkeaaW.PrintLast
section
variable {ops : Array Oper} {a : Act} {o og : Oper} {g : Nat} {t : Tmp} {u : Bool}
end
end Go.Proofs.YtjeheopcohnkeaaW.PrintLast

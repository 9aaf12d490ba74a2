-- Taken by a program of this session (wip/shake.py) out of the words of the print program: those that this claim uses.
import Derived.Test.YtllhbjkkoogeeaaUInv
import Derived.Test.YtllhbjkkoogeeaaUFootNe
namespace Go.Proofs.YtllhbjkkoogeeaaW.PrintWords
open Go.RowKit
end Go.Proofs.YtllhbjkkoogeeaaW.PrintWords
namespace Go.Proofs.YtllhbjkkoogeeaaW.PrintLast
section
variable {ops : Array Oper} {a : Act} {o og : Oper} {g : Nat} {t : Tmp} {u : Bool}
end
end Go.Proofs.YtllhbjkkoogeeaaW.PrintLast

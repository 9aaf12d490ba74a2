-- Taken by a program of this session (wip/shake.py) out of the words of the print program: those that this claim uses.
import Derived.Test.YtijgbhbdmnhanaaUInv
import Derived.Test.YtijgbhbdmnhanaaUFootNe
namespace Go.Proofs.YtijgbhbdmnhanaaW.PrintWords
open Go.RowKit
end Go.Proofs.YtijgbhbdmnhanaaW.PrintWords
namespace Go.Proofs.YtijgbhbdmnhanaaW.PrintLast
section
variable {ops : Array Oper} {a : Act} {o og : Oper} {g : Nat} {t : Tmp} {u : Bool}
end
end Go.Proofs.YtijgbhbdmnhanaaW.PrintLast

-- Taken by a program of this session (wip/shake.py) out of the words of the print program: those that this claim uses.
import Derived.Test.YtjeheopcohnkeaaUTab
/-! ### 56. Four, five, six operations that may come up next, in any order -/
namespace Go.Proofs.YtjeheopcohnkeaaW.PrintLast
section
variable {P : Program} {ops : Array Oper} {Q : Exit → Act → World → Prop} {md : Region.Mode} {S : World → Prop} {ds : List Nat} {T : Bool × List (List Nat × List Nat)}
end
end Go.Proofs.YtjeheopcohnkeaaW.PrintLast

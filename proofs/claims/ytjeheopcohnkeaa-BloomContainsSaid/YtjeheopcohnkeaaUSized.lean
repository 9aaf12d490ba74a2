-- Taken by a program of this session (wip/shake.py) out of the words of the print program: those that this claim uses.
import Derived.SizedLaws
import Derived.ChangeSlices
namespace Go.Proofs.YtjeheopcohnkeaaW.PrintWords
open Go.ChangeShapes Go.WideShapes
end Go.Proofs.YtjeheopcohnkeaaW.PrintWords

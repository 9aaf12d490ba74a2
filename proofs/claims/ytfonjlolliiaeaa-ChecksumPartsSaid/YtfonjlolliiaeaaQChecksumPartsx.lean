-- Written by a program of this session (wip/pr2.sh): the walk of the Go text, function by function.
import Derived.Test.YtfonjlolliiaeaaQChecksumPartsx0
import Derived.Test.YtfonjlolliiaeaaQChecksumPartsx1
import Derived.Test.YtfonjlolliiaeaaQChecksumPartsx2
namespace Go.Proofs.Ytfonjlolliiaeaa.QChecksumParts
open Go.RowKit Go.Proofs.YtfonjlolliiaeaaW.PrintWords Go.Proofs.YtfonjlolliiaeaaW.PrintLast Go.Proofs.YtfonjlolliiaeaaW.PrintMore
open Go.Proofs.YtfonjlolliiaeaaM
attribute [local go_sem] max2_int min2_int max_two min_two max_three min_three max_four min_four   -- for this text's walks alone
set_option linter.unusedVariables false
set_option linter.unusedSimpArgs false

end Go.Proofs.Ytfonjlolliiaeaa.QChecksumParts

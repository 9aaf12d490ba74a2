/- The pure statement of ChecksumParts, and what its parameters are known to be. -/
import Derived.Test.YtfonjlolliiaeaaQChecksumPartsx
import Derived.Test.YtfonjlolliiaeaaM03
set_option linter.unusedVariables false
namespace Go.Proofs.Ytfonjlolliiaeaa.QChecksumParts
open Go Go.RowKit Go.Proofs.YtfonjlolliiaeaaW.PrintWords Go.Proofs.YtfonjlolliiaeaaM
end Go.Proofs.Ytfonjlolliiaeaa.QChecksumParts

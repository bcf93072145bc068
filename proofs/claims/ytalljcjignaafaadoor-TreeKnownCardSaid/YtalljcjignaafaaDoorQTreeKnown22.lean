import Derived.Lib.SplitLaws
import Derived.Test.YtalljcjignaafaaDoorQTreeKnown10
import Derived.Test.YtalljcjignaafaaDoorQTreeKnown11
import Derived.Test.YtalljcjignaafaaDoorQTreeKnown18
import Derived.Test.YtalljcjignaafaaDoorQTreeKnown20
import Derived.Test.YtalljcjignaafaaDoorQTreeKnown21
namespace Go.Proofs.YtalljcjignaafaaDoor.PB
open Go Go.RowKit Go.Proofs.YtalljcjignaafaaDoor Go.Proofs.YtalljcjignaafaaDoorW.PrintWords Go.Proofs.YtalljcjignaafaaDoorW.PrintLast
set_option linter.unusedVariables false
set_option linter.unusedSimpArgs false
end Go.Proofs.YtalljcjignaafaaDoor.PB
namespace Go.Proofs.YtalljcjignaafaaDoor.PB
open Go Go.RowKit Go.Proofs.YtalljcjignaafaaDoor Go.Proofs.YtalljcjignaafaaDoorW.PrintWords Go.Proofs.YtalljcjignaafaaDoorW.PrintLast
set_option linter.unusedVariables false
set_option linter.unusedSimpArgs false
end Go.Proofs.YtalljcjignaafaaDoor.PB

import Derived.WalkKit
import Derived.ProofKit
import Derived.OpenShut
import Derived.ShutString
import Derived.ChangeOld
import Derived.Below
import Derived.SizedLaws
import Derived.ChangeArms
import Derived.Deep.Slices
import Derived.Carry
import Derived.DataReads
import Derived.Test.YtalljcjignaafaaDoorQTreeKnown8
namespace Go.Proofs.YtalljcjignaafaaDoor
open Go.RowKit Go.Proofs.YtalljcjignaafaaDoor.PB Go.Proofs.YtalljcjignaafaaDoorW.PrintWords
set_option linter.unusedVariables false
set_option linter.unusedSimpArgs false
end Go.Proofs.YtalljcjignaafaaDoor

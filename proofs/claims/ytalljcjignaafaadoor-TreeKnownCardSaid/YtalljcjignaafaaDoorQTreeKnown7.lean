import Derived.Laws.StructEq
import Derived.Test.YtalljcjignaafaaDoorQTreeKnown2
namespace Go.Proofs.YtalljcjignaafaaDoorW.PrintWords
open Go.RowKit
section
variable {P : Program} {d : Nat} {xs ys : Array Value} {f : Field} {fs : List Field} {a b : Value} {r s : Bool} {w : World}
end
end Go.Proofs.YtalljcjignaafaaDoorW.PrintWords

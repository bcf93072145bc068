/-
NarKnown of chapter 09, outright (a closed statement): the chapter's examples of trees' bytes, and of bytes that are no tree's. No conditions.
-/
import Derived.Test.YtnnpfahlfmeakaaRows
import Derived.Test.YtnnpfahlfmeakaaQNarKnown35
namespace Go.Proofs.Ytnnpfahlfmeakaa
theorem narKnown_done : Rows.NarKnownSaid := narKnown.proved
#print axioms narKnown_done
end Go.Proofs.Ytnnpfahlfmeakaa

/-
NarReads of chapter 09, outright: for every text that is handed in, cut to 3000 bytes, Decode tells the tree (or the refusal) that the document tells, and the small example goes there and back. No conditions.
-/
import Derived.Test.YtnnpfahlfmeakaaRows
import Derived.Test.YtnnpfahlfmeakaaQNarReads41
namespace Go.Proofs.Ytnnpfahlfmeakaa
theorem narReads_done : Rows.NarReadsSaid := narReads.proved
#print axioms narReads_done
end Go.Proofs.Ytnnpfahlfmeakaa

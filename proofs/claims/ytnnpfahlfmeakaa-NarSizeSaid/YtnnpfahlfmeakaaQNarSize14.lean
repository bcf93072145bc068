import Derived.Test.YtnnpfahlfmeakaaQNarSize7
import Derived.Test.YtnnpfahlfmeakaaQNarSize13
namespace Go.Proofs.Ytnnpfahlfmeakaa.PB
open Go.RowKit Go.Proofs.Ytnnpfahlfmeakaa Go.Proofs.YtnnpfahlfmeakaaW.PrintWords Go.Proofs.YtnnpfahlfmeakaaW.PrintLast
set_option linter.unusedVariables false
set_option linter.unusedSimpArgs false
/-- A text's own bytes. -/
def textB (t : ByteArray) : ByteArray := encNum t.size ++ t
set_option maxRecDepth 100000 in
theorem wirePutText_calls (s t : ByteArray) (hs : s.size + t.size ≤ 281474976710000) (w : World) :
    Calls Try.prog 21 #[.string s, .string t] w fun e w' => e = .returned (.string (s ++ textB t)) ∧ Below w.heap.size w w' := by
  have h9 := nd_le t.size (by omega)
  have HC := Aside0.mk (fun W => putNum_any s t.size (by omega) (by omega) W)
  have hsz : (s ++ encNum t.size).size = s.size + (nd t.size + 1) := by rw [ByteArray.size_append, encNum_size]
  have hb : t.size < 18446744073709551616 := by omega
  have hbi : (t.size : Int) ≤ 9223372036854775807 := by omega
  have hsum : (s ++ encNum t.size).size + t.size ≤ 9223372036854775807 := by omega
  clear hs h9 hsz
  unfold textB
  rw [← ByteArray.append_assoc]
  generalize s ++ encNum t.size = q at HC hsum ⊢
  go_enter Try.func21, Try.ntmps21
  go_wp2_with (go_at_call 41; refine (HC.out _).mono ?_; rintro e w1 ⟨rfl, hr⟩; have HR := Aside0.mk hr; clear hr)
  go_ret
  exact ⟨rfl, HR.out⟩
end Go.Proofs.Ytnnpfahlfmeakaa.PB

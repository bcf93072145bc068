import Derived.Test.YtnnpfahlfmeakaaQNarReads24
import Derived.Test.YtnnpfahlfmeakaaQNarReads31
import Derived.Test.YtnnpfahlfmeakaaQNarReads38
import Derived.Test.YtnnpfahlfmeakaaQNarReads39
namespace Go.Proofs.Ytnnpfahlfmeakaa.Pure
open Go.RowKit Go.Proofs.Ytnnpfahlfmeakaa Go.Proofs.Ytnnpfahlfmeakaa.PB Go.Proofs.YtnnpfahlfmeakaaW.PrintWords Go.Proofs.YtnnpfahlfmeakaaW.PrintLast
set_option linter.unusedVariables false
theorem zero_fit : Fit zeroT := Fit.mk _ (Nat.zero_le 140737488351232) (by show (-9223372036854775808 : Int) ≤ 0 ∧ (0 : Int) ≤ 9223372036854775807; decide) (Nat.zero_le 140737488351232) (Nat.zero_le 1954687338212) (fun k hk => by cases hk)
theorem dec_same (s : ByteArray) (hs : s.size ≤ 140737488351232) : Ev (fun k => whiskref06_Same.f k (decodeR s).1.f0 (decodeR s).1.f1 (decodeR s).1.f2 (decodeR s).1.f3 (decodeR s).1.f4 (decodeR s).1.f0 (decodeR s).1.f1 (decodeR s).1.f2 (decodeR s).1.f3 (decodeR s).1.f4) true := by
  unfold decodeR
  cases h : decodeP s with
  | none =>
    refine refSame_top zeroT zero_fit (by show depthP ⟨⟨#[]⟩, 0, false, ⟨#[]⟩, []⟩ ≤ 12; simp [depthP]) (refSame_loop zeroT (Nat.zero_le 1954687338212) (fun x hx => by cases hx) 0 0 rfl (Nat.le_refl _))
  | some t =>
    obtain ⟨h1, h2, h3⟩ := decode_some s hs t h
    obtain ⟨a1, -, -⟩ := enc_ok t (by rw [h3])
    obtain ⟨b1, b2, b3, b4, b5⟩ := checkP_ok t a1
    exact refSame_refl t h1 b3 b1
theorem NarReads : whisklaw09_NarReads.Pure := by
  intro a0 w0
  have hcut : ((mn (a0.size : Int) 3000) : Int) = ((min a0.size 3000 : Nat) : Int) := by unfold mn; split <;> omega
  have hsz : (a0.extract 0 (min a0.size 3000)).size ≤ 140737488351232 := by rw [ByteArray.size_extract]; omega
  obtain ⟨k, hk⟩ := dec_same (a0.extract 0 (min a0.size 3000)) hsz
  have hk2 := hk k (Nat.le_refl _)
  have a1 := decode_f (a0.extract 0 (min a0.size 3000)) hsz
  have a2 : whiskref09_Decode.f (a0.extract 0 (min a0.size 3000)) = some ((decodeR (a0.extract 0 (min a0.size 3000))).1.f0, (decodeR (a0.extract 0 (min a0.size 3000))).1.f1, (decodeR (a0.extract 0 (min a0.size 3000))).1.f2, (decodeR (a0.extract 0 (min a0.size 3000))).1.f3, (decodeR (a0.extract 0 (min a0.size 3000))).1.f4, (decodeR (a0.extract 0 (min a0.size 3000))).2) := if_pos hsz
  refine ⟨k, ?_⟩
  unfold whisklaw09_NarReads.f
  rw [hcut, if_pos (by omega), if_pos (by omega)]
  simp only [Int.toNat_natCast] at *
  generalize a0.extract 0 (min a0.size 3000) = s at *
  rw [a1, Option.bind_some, a2, Option.bind_some, if_pos rfl, hk2, Option.bind_some, if_pos rfl, works_f]
  rfl
end Go.Proofs.Ytnnpfahlfmeakaa.Pure

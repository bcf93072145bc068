import Derived.Test.YtnnpfahlfmeakaaQNarSize23
import Derived.Test.YtnnpfahlfmeakaaQNarSize24
import Derived.Test.YtnnpfahlfmeakaaQNarSize30
import Derived.Test.YtnnpfahlfmeakaaQNarSize31
import Derived.Test.YtnnpfahlfmeakaaQNarSize37
namespace Go.Proofs.Ytnnpfahlfmeakaa
open Go.RowKit Go.Proofs.Ytnnpfahlfmeakaa.PB Go.Proofs.YtnnpfahlfmeakaaW.PrintWords Go.Proofs.YtnnpfahlfmeakaaW.PrintLast
set_option linter.unusedVariables false
set_option linter.unusedSimpArgs false
theorem enc_ok (t : Tree) (h : (encP t).2 = 0) : checkP t = 0 ∧ encP t = (magicB ++ nodeB t, 0) ∧ (magicB ++ nodeB t).size ≤ 60000 := by
  by_cases h0 : checkP t = 0
  · by_cases h1 : 60000 < (magicB ++ nodeB t).size
    · unfold encP at h; rw [if_pos h0, if_pos h1] at h; cases h
    · exact ⟨h0, by unfold encP; rw [if_pos h0, if_neg h1], by omega⟩
  · unfold encP at h; rw [if_neg h0] at h; exact absurd h h0
theorem ba_empty (s : ByteArray) (h : s.data.toList = []) : s = ⟨#[]⟩ := by
  obtain ⟨⟨d⟩⟩ := s
  simp at h; subst h; rfl
theorem unname_id (t : Tree) (h : t.f0.data.toList = []) : unname t = t := by
  cases t
  simp only [unname]
  rw [← ba_empty _ h]
theorem magic_text (l : List UInt8) : textR (bl magicB ++ l) = some ([119, 104, 105, 115, 107, 45, 116, 114, 101, 101], l) := textR_enc ⟨#[119, 104, 105, 115, 107, 45, 116, 114, 101, 101]⟩ (by decide) l
theorem magic_str : (str [119, 104, 105, 115, 107, 45, 116, 114, 101, 101]).toList = ([119, 104, 105, 115, 107, 45, 116, 114, 101, 101] : List UInt8) := by
  rw [tl_eq]; exact bl_str _
theorem decode_enc (t : Tree) (hf : Fit t) (h : (encP t).2 = 0) : decodeP (encP t).1 = some t := by
  obtain ⟨h0, h1, h2⟩ := enc_ok t h
  obtain ⟨b1, b2, b3, b4, b5⟩ := checkP_ok t h0
  have e : (encP t).1 = magicB ++ nodeB t := by rw [h1]
  unfold decodeP
  rw [e]
  have m := magic_text (bl (nodeB t))
  have n := nodeR_enc 13 t hf b3 (by omega) b4 []
  rw [List.append_nil, unname_id t b2] at n
  show (textR (bl (magicB ++ nodeB t))).bind _ = _
  rw [bl_append, m]
  simp only [Option.bind_some]
  rw [if_pos magic_str, n]
  simp only [Option.bind_some]
  rw [if_pos ⟨trivial, h, by rw [e]⟩]
theorem encNum_small (n : Nat) (h : n < 128) : encNum n = ⟨#[UInt8.ofNat n]⟩ := by
  have e : bl (encNum n) = [UInt8.ofNat n] := by
    rw [bl_encNum, show nd n = 0 by unfold nd; rw [if_pos h], bd_zero, Nat.mod_eq_of_lt h]
  rw [← str_bl (encNum n), e]; rfl
def xT : Tree := ⟨⟨#[]⟩, 1, false, ⟨#[120]⟩, []⟩
theorem xT_fit : Fit xT := Fit.mk _ (Nat.zero_le 140737488351232) (by show (-9223372036854775808 : Int) ≤ 1 ∧ (1 : Int) ≤ 9223372036854775807; decide) (by show (⟨#[120]⟩ : ByteArray).size ≤ 140737488351232; decide) (Nat.zero_le 1954687338212) (fun k hk => by cases hk)
theorem xT_sized : Sized xT := fun _ _ => by
  show sizeN ⟨⟨#[]⟩, 1, false, ⟨#[120]⟩, []⟩ + sizeB ⟨⟨#[]⟩, 1, false, ⟨#[120]⟩, []⟩ < 4611686018427387904
  simp only [sizeN, sizeB, sizeNs, sizeBs]
  have : (⟨#[120]⟩ : ByteArray).size = 1 := rfl
  omega
theorem magic_is : magicB = ⟨#[10, 119, 104, 105, 115, 107, 45, 116, 114, 101, 101]⟩ := by
  unfold magicB textB
  rw [show (⟨#[119, 104, 105, 115, 107, 45, 116, 114, 101, 101]⟩ : ByteArray).size = 10 from rfl, encNum_small 10 (by decide)]
  rfl
theorem xT_bytes : nodeB xT = ⟨#[1, 0, 1, 120]⟩ := by
  show nodeB ⟨⟨#[]⟩, 1, false, ⟨#[120]⟩, []⟩ = _
  simp only [nodeB, if_true, Int.reduceToNat, Bool.false_eq_true, if_false]
  rw [show (⟨#[120]⟩ : ByteArray).size = 1 from rfl, encNum_small 1 (by decide), encNum_small 0 (by decide)]
  rfl
theorem xT_check : checkP xT = 0 := by
  have h1 : depthP xT = 1 := by show depthP ⟨⟨#[]⟩, 1, false, ⟨#[120]⟩, []⟩ = 1; simp [depthP]
  have h2 : mayP xT = true := by show mayP ⟨⟨#[]⟩, 1, false, ⟨#[120]⟩, []⟩ = true; simp [mayP]
  have h3 : sizeN xT = 1 := by show sizeN ⟨⟨#[]⟩, 1, false, ⟨#[120]⟩, []⟩ = 1; simp [sizeN, sizeNs]
  have h4 : sizeB xT = 1 := by show sizeB ⟨⟨#[]⟩, 1, false, ⟨#[120]⟩, []⟩ = 1; simp [sizeB, sizeBs]; rfl
  unfold checkP
  rw [h1, h2, h3, h4, if_neg (by decide), if_pos ⟨rfl, rfl⟩, if_neg (by decide)]
theorem xT_enc : encP xT = (⟨#[10, 119, 104, 105, 115, 107, 45, 116, 114, 101, 101, 1, 0, 1, 120]⟩, 0) := by
  have e : magicB ++ nodeB xT = ⟨#[10, 119, 104, 105, 115, 107, 45, 116, 114, 101, 101, 1, 0, 1, 120]⟩ := by rw [magic_is, xT_bytes]; rfl
  unfold encP
  rw [if_pos xT_check, e, if_neg (by decide)]
theorem works_f : whisklaw09_works.f = some true := by
  unfold whisklaw09_works.f
  have a1 : nar_Encode.f (⟨#[]⟩ : ByteArray) 1 false (⟨#[120]⟩ : ByteArray) ([] : List Tree) = some (encP xT) := if_pos ⟨xT_fit, xT_sized⟩
  have a2 : whisklaw09_magic.f = some (⟨#[10, 119, 104, 105, 115, 107, 45, 116, 114, 101, 101]⟩ : ByteArray) := rfl
  have a3 := decode_f ⟨#[10, 119, 104, 105, 115, 107, 45, 116, 114, 101, 101, 1, 0, 1, 120]⟩ (by decide)
  have a4 := decode_enc xT xT_fit (by rw [xT_enc])
  rw [xT_enc] at a4
  have a5 : decodeR ⟨#[10, 119, 104, 105, 115, 107, 45, 116, 114, 101, 101, 1, 0, 1, 120]⟩ = (xT, 0) := by unfold decodeR; rw [a4]
  rw [a5] at a3
  rw [a1, a2, xT_enc]
  simp only [Option.bind_some]
  rw [if_pos (by decide), show (⟨#[10, 119, 104, 105, 115, 107, 45, 116, 114, 101, 101]⟩ : ByteArray) ++ ⟨#[1, 0, 1, 120]⟩ = ⟨#[10, 119, 104, 105, 115, 107, 45, 116, 114, 101, 101, 1, 0, 1, 120]⟩ from rfl, a3]
  simp only [Option.bind_some, if_true]
  rw [if_pos (by decide)]
  rw [if_pos (by show xT.f1 = 1; rfl), if_pos (by show xT.f3.toList = [120]; rw [tl_eq]; rfl)]
  rfl
end Go.Proofs.Ytnnpfahlfmeakaa
namespace Go.Proofs.Ytnnpfahlfmeakaa
open Go.RowKit Go.Proofs.Ytnnpfahlfmeakaa.PB Go.Proofs.YtnnpfahlfmeakaaW.PrintWords Go.Proofs.YtnnpfahlfmeakaaW.PrintLast
set_option linter.unusedVariables false
set_option linter.unusedSimpArgs false
theorem enc_ne (t : Tree) (h : (encP t).2 ≠ 0) : (encP t).1 = ⟨#[]⟩ := by
  unfold encP at h ⊢
  by_cases h0 : checkP t = 0
  · rw [if_pos h0] at h ⊢
    by_cases h1 : 60000 < (magicB ++ nodeB t).size
    · rw [if_pos h1]
    · rw [if_neg h1] at h; exact absurd rfl h
  · rw [if_neg h0]
end Go.Proofs.Ytnnpfahlfmeakaa

import Derived.Test.YtnnpfahlfmeakaaQNarKnown23
import Derived.Test.YtnnpfahlfmeakaaQNarKnown24
import Derived.Test.YtnnpfahlfmeakaaQNarKnown30
import Derived.Test.YtnnpfahlfmeakaaQNarKnown31
import Derived.Test.YtnnpfahlfmeakaaQNarKnown32
import Derived.Test.YtnnpfahlfmeakaaQNarKnown33
namespace Go.Proofs.Ytnnpfahlfmeakaa
open Go.RowKit Go.Proofs.Ytnnpfahlfmeakaa.PB Go.Proofs.YtnnpfahlfmeakaaW.PrintWords Go.Proofs.YtnnpfahlfmeakaaW.PrintLast
set_option linter.unusedVariables false
set_option linter.unusedSimpArgs false
theorem enc_ok (t : Tree) (h : (encP t).2 = 0) : checkP t = 0 ∧ encP t = (magicB ++ nodeB t, 0) ∧ (magicB ++ nodeB t).size ≤ 60000 := by
  by_cases h0 : checkP t = 0
  · by_cases h1 : 60000 < (magicB ++ nodeB t).size
    · unfold encP at h; rw [if_pos h0, if_pos h1] at h; cases h
    · exact ⟨h0, by unfold encP; rw [if_pos h0, if_neg h1], by omega⟩
  · unfold encP at h; rw [if_neg h0] at h; exact absurd h h0
theorem ba_empty (s : ByteArray) (h : s.data.toList = []) : s = ⟨#[]⟩ := by
  obtain ⟨⟨d⟩⟩ := s
  simp at h; subst h; rfl
theorem unname_id (t : Tree) (h : t.f0.data.toList = []) : unname t = t := by
  cases t
  simp only [unname]
  rw [← ba_empty _ h]
theorem magic_text (l : List UInt8) : textR (bl magicB ++ l) = some ([119, 104, 105, 115, 107, 45, 116, 114, 101, 101], l) := textR_enc ⟨#[119, 104, 105, 115, 107, 45, 116, 114, 101, 101]⟩ (by decide) l
theorem magic_str : (str [119, 104, 105, 115, 107, 45, 116, 114, 101, 101]).toList = ([119, 104, 105, 115, 107, 45, 116, 114, 101, 101] : List UInt8) := by
  rw [tl_eq]; exact bl_str _
theorem decode_enc (t : Tree) (hf : Fit t) (h : (encP t).2 = 0) : decodeP (encP t).1 = some t := by
  obtain ⟨h0, h1, h2⟩ := enc_ok t h
  obtain ⟨b1, b2, b3, b4, b5⟩ := checkP_ok t h0
  have e : (encP t).1 = magicB ++ nodeB t := by rw [h1]
  unfold decodeP
  rw [e]
  have m := magic_text (bl (nodeB t))
  have n := nodeR_enc 13 t hf b3 (by omega) b4 []
  rw [List.append_nil, unname_id t b2] at n
  show (textR (bl (magicB ++ nodeB t))).bind _ = _
  rw [bl_append, m]
  simp only [Option.bind_some]
  rw [if_pos magic_str, n]
  simp only [Option.bind_some]
  rw [if_pos ⟨trivial, h, by rw [e]⟩]
theorem encNum_small (n : Nat) (h : n < 128) : encNum n = ⟨#[UInt8.ofNat n]⟩ := by
  have e : bl (encNum n) = [UInt8.ofNat n] := by
    rw [bl_encNum, show nd n = 0 by unfold nd; rw [if_pos h], bd_zero, Nat.mod_eq_of_lt h]
  rw [← str_bl (encNum n), e]; rfl
def xT : Tree := ⟨⟨#[]⟩, 1, false, ⟨#[120]⟩, []⟩
theorem xT_fit : Fit xT := Fit.mk _ (Nat.zero_le 140737488351232) (by show (-9223372036854775808 : Int) ≤ 1 ∧ (1 : Int) ≤ 9223372036854775807; decide) (by show (⟨#[120]⟩ : ByteArray).size ≤ 140737488351232; decide) (Nat.zero_le 1954687338212) (fun k hk => by cases hk)
theorem xT_sized : Sized xT := fun _ _ => by
  show sizeN ⟨⟨#[]⟩, 1, false, ⟨#[120]⟩, []⟩ + sizeB ⟨⟨#[]⟩, 1, false, ⟨#[120]⟩, []⟩ < 4611686018427387904
  simp only [sizeN, sizeB, sizeNs, sizeBs]
  have : (⟨#[120]⟩ : ByteArray).size = 1 := rfl
  omega
theorem magic_is : magicB = ⟨#[10, 119, 104, 105, 115, 107, 45, 116, 114, 101, 101]⟩ := by
  unfold magicB textB
  rw [show (⟨#[119, 104, 105, 115, 107, 45, 116, 114, 101, 101]⟩ : ByteArray).size = 10 from rfl, encNum_small 10 (by decide)]
  rfl
theorem xT_bytes : nodeB xT = ⟨#[1, 0, 1, 120]⟩ := by
  show nodeB ⟨⟨#[]⟩, 1, false, ⟨#[120]⟩, []⟩ = _
  simp only [nodeB, if_true, Int.reduceToNat, Bool.false_eq_true, if_false]
  rw [show (⟨#[120]⟩ : ByteArray).size = 1 from rfl, encNum_small 1 (by decide), encNum_small 0 (by decide)]
  rfl
theorem xT_check : checkP xT = 0 := by
  have h1 : depthP xT = 1 := by show depthP ⟨⟨#[]⟩, 1, false, ⟨#[120]⟩, []⟩ = 1; simp [depthP]
  have h2 : mayP xT = true := by show mayP ⟨⟨#[]⟩, 1, false, ⟨#[120]⟩, []⟩ = true; simp [mayP]
  have h3 : sizeN xT = 1 := by show sizeN ⟨⟨#[]⟩, 1, false, ⟨#[120]⟩, []⟩ = 1; simp [sizeN, sizeNs]
  have h4 : sizeB xT = 1 := by show sizeB ⟨⟨#[]⟩, 1, false, ⟨#[120]⟩, []⟩ = 1; simp [sizeB, sizeBs]; rfl
  unfold checkP
  rw [h1, h2, h3, h4, if_neg (by decide), if_pos ⟨rfl, rfl⟩, if_neg (by decide)]
theorem xT_enc : encP xT = (⟨#[10, 119, 104, 105, 115, 107, 45, 116, 114, 101, 101, 1, 0, 1, 120]⟩, 0) := by
  have e : magicB ++ nodeB xT = ⟨#[10, 119, 104, 105, 115, 107, 45, 116, 114, 101, 101, 1, 0, 1, 120]⟩ := by rw [magic_is, xT_bytes]; rfl
  unfold encP
  rw [if_pos xT_check, e, if_neg (by decide)]
theorem works_f : whisklaw09_works.f = some true := by
  unfold whisklaw09_works.f
  have a1 : nar_Encode.f (⟨#[]⟩ : ByteArray) 1 false (⟨#[120]⟩ : ByteArray) ([] : List Tree) = some (encP xT) := if_pos ⟨xT_fit, xT_sized⟩
  have a2 : whisklaw09_magic.f = some (⟨#[10, 119, 104, 105, 115, 107, 45, 116, 114, 101, 101]⟩ : ByteArray) := rfl
  have a3 := decode_f ⟨#[10, 119, 104, 105, 115, 107, 45, 116, 114, 101, 101, 1, 0, 1, 120]⟩ (by decide)
  have a4 := decode_enc xT xT_fit (by rw [xT_enc])
  rw [xT_enc] at a4
  have a5 : decodeR ⟨#[10, 119, 104, 105, 115, 107, 45, 116, 114, 101, 101, 1, 0, 1, 120]⟩ = (xT, 0) := by unfold decodeR; rw [a4]
  rw [a5] at a3
  rw [a1, a2, xT_enc]
  simp only [Option.bind_some]
  rw [if_pos (by decide), show (⟨#[10, 119, 104, 105, 115, 107, 45, 116, 114, 101, 101]⟩ : ByteArray) ++ ⟨#[1, 0, 1, 120]⟩ = ⟨#[10, 119, 104, 105, 115, 107, 45, 116, 114, 101, 101, 1, 0, 1, 120]⟩ from rfl, a3]
  simp only [Option.bind_some, if_true]
  rw [if_pos (by decide)]
  rw [if_pos (by show xT.f1 = 1; rfl), if_pos (by show xT.f3.toList = [120]; rw [tl_eq]; rfl)]
  rfl
end Go.Proofs.Ytnnpfahlfmeakaa
namespace Go.Proofs.Ytnnpfahlfmeakaa
open Go.RowKit Go.Proofs.Ytnnpfahlfmeakaa.PB Go.Proofs.YtnnpfahlfmeakaaW.PrintWords Go.Proofs.YtnnpfahlfmeakaaW.PrintLast
set_option linter.unusedVariables false
set_option linter.unusedSimpArgs false
theorem sameKs_refl : ∀ (l : List Tree), (∀ x ∈ l, sameP x x = true) → sameKs l l = true
  | [], _ => rfl
  | x :: r, h => by
    simp only [sameKs]
    rw [h x (by simp), sameKs_refl r (fun y hy => h y (by simp [hy]))]
    rfl
theorem sameP_refl (t : Tree) (hf : Fit t) : mayP t = true → depthP t ≤ 12 → sameP t t = true := by
  induction hf with
  | mk t h0 h1 h3 h4 hk ih =>
    intro hm hd
    have hks := sameKs_refl t.f4 (fun x hx => ih x hx ((mayP_kids t hm).2 x hx) (by have := depth_kid t hm x hx; omega))
    rw [sameP_eq, hks]
    have : ¬ 12 < depthP t := by omega
    simp [this]
end Go.Proofs.Ytnnpfahlfmeakaa
namespace Go.Proofs.Ytnnpfahlfmeakaa.Pure
open Go.RowKit Go.Proofs.Ytnnpfahlfmeakaa Go.Proofs.Ytnnpfahlfmeakaa.PB Go.Proofs.YtnnpfahlfmeakaaW.PrintWords Go.Proofs.YtnnpfahlfmeakaaW.PrintLast
set_option linter.unusedVariables false
set_option linter.unusedSimpArgs false
def bad (x : ByteArray) : Bool := match textR (bl x) with
  | none => true
  | some p => if p.1 = [119, 104, 105, 115, 107, 45, 116, 114, 101, 101] then (match nodeR 13 p.2 with
    | none => true
    | some t => !t.2.isEmpty || !mayP t.1) else true
theorem bad_none (x : ByteArray) (h : bad x = true) : decodeR x = (zeroT, 4) := by
  have : decodeP x = none := by
    unfold decodeP
    unfold bad at h
    show (textR (bl x)).bind _ = none
    cases ht : textR (bl x) with
    | none => rfl
    | some p =>
      rw [ht] at h
      simp only [Option.bind_some] at h ⊢
      by_cases hp : p.1 = [119, 104, 105, 115, 107, 45, 116, 114, 101, 101]
      · rw [if_pos hp] at h
        rw [if_pos (by rw [hp]; exact magic_str)]
        cases hn : nodeR 13 p.2 with
        | none => rfl
        | some t =>
          rw [hn] at h
          simp only [Option.bind_some] at h ⊢
          rw [if_neg]
          rintro ⟨a1, a2, a3⟩
          obtain ⟨b1, b2, b3⟩ := enc_ok _ a2
          obtain ⟨c1, c2, c3, c4, c5⟩ := checkP_ok _ b1
          rw [a1, c3] at h
          cases h
      · rw [if_neg]
        intro h2
        rw [tl_eq] at h2
        exact hp ((bl_str p.1).symm.trans h2)
  unfold decodeR
  rw [this]
def L13 : List ByteArray := [⟨#[]⟩, ⟨#[10, 119, 104, 105, 115, 107, 45, 116, 114, 101, 101]⟩, ⟨#[10, 119, 104, 105, 115, 107, 45, 116, 114, 101, 101, 2, 0, 0]⟩, ⟨#[10, 119, 104, 105, 115, 107, 45, 116, 114, 101, 101, 1, 2, 0]⟩, ⟨#[10, 119, 104, 105, 115, 107, 45, 116, 114, 101, 101, 1, 0]⟩, ⟨#[10, 119, 104, 105, 115, 107, 45, 116, 114, 101, 101, 4]⟩, ⟨#[10, 119, 104, 105, 115, 107, 45, 116, 114, 101, 101, 3, 0]⟩, ⟨#[10, 119, 104, 105, 115, 107, 45, 116, 114, 101, 101, 2, 1, 0, 1, 0, 0]⟩, ⟨#[10, 119, 104, 105, 115, 107, 45, 116, 114, 101, 101, 2, 2, 1, 98, 1, 0, 0, 1, 97, 1, 0, 0]⟩, ⟨#[10, 119, 104, 105, 115, 107, 45, 116, 114, 101, 101, 2, 2, 1, 97, 1, 0, 0, 1, 97, 1, 0, 0]⟩, ⟨#[10, 119, 104, 105, 115, 107, 45, 116, 114, 101, 101, 2, 1, 2, 46, 46, 1, 0, 0]⟩, ⟨#[10, 119, 104, 105, 115, 107, 45, 116, 114, 105, 101, 1, 0, 0]⟩, ⟨#[10, 119, 104, 105, 115, 107, 45, 116, 114, 101, 101, 1, 128, 0, 0]⟩]
theorem bad_all : L13.all bad = true := by decide +kernel
abbrev MB : ByteArray := ⟨#[10, 119, 104, 105, 115, 107, 45, 116, 114, 101, 101]⟩
theorem magic_f : whisklaw09_magic.f = some MB := rfl
def kT : Tree := ⟨⟨#[98]⟩, 3, false, ⟨#[99]⟩, []⟩
def lkT : Tree := ⟨⟨#[]⟩, 2, false, ⟨#[]⟩, [kT]⟩
def exT : Tree := ⟨⟨#[]⟩, 1, true, ⟨#[]⟩, []⟩
def nmT : Tree := ⟨⟨#[97]⟩, 1, false, ⟨#[]⟩, []⟩
def big : ByteArray := strOfNums (List.replicate 60000 0)
theorem big_size : big.size = 60000 := by unfold big; rw [strOfNums_size, List.length_replicate]
def bigT : Tree := ⟨⟨#[]⟩, 1, false, big, []⟩
theorem leaf_fit (a : ByteArray) (k : Int) (e : Bool) (d : ByteArray) (ha : a.size ≤ 140737488351232) (hk : -9223372036854775808 ≤ k ∧ k ≤ 9223372036854775807) (hd : d.size ≤ 140737488351232) : Fit ⟨a, k, e, d, []⟩ := Fit.mk _ ha hk hd (Nat.zero_le 1954687338212) (fun k hk => by cases hk)
theorem leaf_sized (a : ByteArray) (k : Int) (e : Bool) (d : ByteArray) (hd : d.size ≤ 140737488351232) : Sized ⟨a, k, e, d, []⟩ := fun _ _ => by
  simp only [sizeN, sizeB, sizeNs, sizeBs]; omega
theorem kT_fit : Fit kT := leaf_fit _ _ _ _ (by decide) (by decide) (by decide)
theorem lkT_fit : Fit lkT := Fit.mk _ (Nat.zero_le 140737488351232) (by show (-9223372036854775808 : Int) ≤ 2 ∧ (2 : Int) ≤ 9223372036854775807; decide) (Nat.zero_le 140737488351232) (by show ([kT] : List Tree).length ≤ 1954687338212; decide) (fun k hk => by
  have : k = kT := List.mem_singleton.1 hk
  subst this
  exact kT_fit)
theorem lkT_sized : Sized lkT := fun _ _ => by
  show sizeN ⟨⟨#[]⟩, 2, false, ⟨#[]⟩, [⟨⟨#[98]⟩, 3, false, ⟨#[99]⟩, []⟩]⟩ + sizeB ⟨⟨#[]⟩, 2, false, ⟨#[]⟩, [⟨⟨#[98]⟩, 3, false, ⟨#[99]⟩, []⟩]⟩ < 4611686018427387904
  simp only [sizeN, sizeB, sizeNs, sizeBs]
  decide
theorem lkT_enc : encP lkT = (MB ++ ⟨#[2, 1, 1, 98, 3, 1, 99]⟩, 0) := by
  have e : magicB ++ nodeB lkT = MB ++ ⟨#[2, 1, 1, 98, 3, 1, 99]⟩ := by
    show magicB ++ nodeB ⟨⟨#[]⟩, 2, false, ⟨#[]⟩, [⟨⟨#[98]⟩, 3, false, ⟨#[99]⟩, []⟩]⟩ = _
    simp only [nodeB, kidsB, Int.reduceEq, if_false, if_true, Int.reduceToNat]
    rw [magic_is, show (⟨#[99]⟩ : ByteArray).size = 1 from rfl, show (⟨#[98]⟩ : ByteArray).size = 1 from rfl, show ([⟨⟨#[98]⟩, 3, false, ⟨#[99]⟩, []⟩] : List Tree).length = 1 from rfl, encNum_small 1 (by decide), encNum_small 2 (by decide), encNum_small 3 (by decide)]
    decide +kernel
  have c : checkP lkT = 0 := by decide +kernel
  unfold encP
  rw [if_pos c, e, if_neg (by decide)]
theorem exT_enc : encP exT = (MB ++ ⟨#[1, 1, 0]⟩, 0) := by
  have e : magicB ++ nodeB exT = MB ++ ⟨#[1, 1, 0]⟩ := by
    show magicB ++ nodeB ⟨⟨#[]⟩, 1, true, ⟨#[]⟩, []⟩ = _
    simp only [nodeB, if_true, Int.reduceToNat]
    rw [magic_is, show (⟨#[]⟩ : ByteArray).size = 0 from rfl, encNum_small 1 (by decide), encNum_small 0 (by decide)]
    decide +kernel
  have c : checkP exT = 0 := by decide +kernel
  unfold encP
  rw [if_pos c, e, if_neg (by decide)]
theorem zeroT_enc : (encP zeroT).2 = 2 := by
  have c : checkP zeroT = 2 := by decide +kernel
  unfold encP; rw [c, if_neg (by decide)]
theorem nmT_enc : (encP nmT).2 = 2 := by
  have c : checkP nmT = 2 := by decide +kernel
  unfold encP; rw [c, if_neg (by decide)]
theorem bigT_enc : (encP bigT).2 = 3 := by
  have hb := big_size
  have h1 : depthP bigT = 1 := by show depthP ⟨⟨#[]⟩, 1, false, big, []⟩ = 1; simp [depthP]
  have h2 : mayP bigT = true := by show mayP ⟨⟨#[]⟩, 1, false, big, []⟩ = true; simp [mayP]
  have h3 : sizeN bigT = 1 := by show sizeN ⟨⟨#[]⟩, 1, false, big, []⟩ = 1; simp [sizeN, sizeNs]
  have h4 : sizeB bigT = 60000 := by show sizeB ⟨⟨#[]⟩, 1, false, big, []⟩ = 60000; simp only [sizeB, sizeBs]; omega
  have c : checkP bigT = 0 := by unfold checkP; rw [h1, h2, h3, h4, if_neg (by decide), if_pos ⟨rfl, rfl⟩, if_neg (by decide)]
  have hs : 60000 < (magicB ++ nodeB bigT).size := by
    show 60000 < (magicB ++ nodeB ⟨⟨#[]⟩, 1, false, big, []⟩).size
    simp only [nodeB, if_true, ByteArray.size_append, hb]
    rw [magic_is]
    have : (⟨#[10, 119, 104, 105, 115, 107, 45, 116, 114, 101, 101]⟩ : ByteArray).size = 11 := rfl
    omega
  unfold encP; rw [if_pos c, if_pos hs]
theorem fin (k : Nat) : whisklaw09_NarKnown.l0 (k + 1) (MB ++ ⟨#[2, 1, 1, 98, 3, 1, 99]⟩) L13 13 13 ⟨#[]⟩ 2 false ⟨#[]⟩ [kT] = some true := by
  have a1 := decode_f (MB ++ ⟨#[2, 1, 1, 98, 3, 1, 99]⟩) (by decide)
  have a2 : decodeR (MB ++ ⟨#[2, 1, 1, 98, 3, 1, 99]⟩) = (lkT, 0) := by
    have := decode_enc lkT lkT_fit (by rw [lkT_enc])
    rw [lkT_enc] at this
    unfold decodeR
    rw [this]
  rw [a2] at a1
  have b1 : nar_Encode.f (⟨#[]⟩ : ByteArray) 0 false (⟨#[]⟩ : ByteArray) ([] : List Tree) = some (encP zeroT) := if_pos ⟨leaf_fit _ _ _ _ (by decide) (by decide) (by decide), leaf_sized _ _ _ _ (by decide)⟩
  have b2 : nar_Encode.f (⟨#[97]⟩ : ByteArray) 1 false (⟨#[]⟩ : ByteArray) ([] : List Tree) = some (encP nmT) := if_pos ⟨leaf_fit _ _ _ _ (by decide) (by decide) (by decide), leaf_sized _ _ _ _ (by decide)⟩
  have b3 : nar_Encode.f (⟨#[]⟩ : ByteArray) 1 false (strOfNums (List.replicate 60000 0)) ([] : List Tree) = some (encP bigT) := if_pos ⟨leaf_fit _ _ _ _ (by decide) (by decide) (by have := big_size; unfold big at this; omega), leaf_sized _ _ _ _ (by have := big_size; unfold big at this; omega)⟩
  have b4 : tree_Same.f lkT.f0 lkT.f1 lkT.f2 lkT.f3 lkT.f4 ⟨#[]⟩ 2 false ⟨#[]⟩ [kT] = some (sameP lkT lkT) := if_pos ⟨lkT_fit, lkT_fit⟩
  obtain ⟨c1, c2, c3⟩ := enc_ok lkT (by rw [lkT_enc])
  obtain ⟨d1, d2, d3, d4, d5⟩ := checkP_ok lkT c1
  rw [sameP_refl lkT lkT_fit d3 d1] at b4
  rw [whisklaw09_NarKnown.l0, if_neg (by decide), a1, Option.bind_some, b1, Option.bind_some, b2, Option.bind_some, if_pos (by decide), b3, Option.bind_some, if_pos rfl, b4, Option.bind_some, if_pos rfl, if_pos zeroT_enc, if_pos nmT_enc, if_pos bigT_enc, works_f]
  rfl
theorem loop13 : ∀ (n i k : Nat), i + n = 13 → whisklaw09_NarKnown.l0 (k + n + 1) (MB ++ ⟨#[2, 1, 1, 98, 3, 1, 99]⟩) L13 13 (i : Int) ⟨#[]⟩ 2 false ⟨#[]⟩ [kT] = some true
  | 0, i, k, hi => by
    obtain rfl : i = 13 := by omega
    exact fin k
  | n + 1, i, k, hi => by
    have hlen : L13.length = 13 := rfl
    have hb : bad (rdOf ByteArray.empty L13 (i : Int)) = true := by
      unfold rdOf
      rw [Int.toNat_natCast, List.getD_eq_getElem?_getD, List.getElem?_eq_getElem (by omega)]
      exact List.all_eq_true.1 bad_all _ (List.getElem_mem _)
    have hs : (rdOf ByteArray.empty L13 (i : Int)).size ≤ 140737488351232 := by
      have h0 : L13.all (fun x => decide (x.size ≤ 140737488351232)) = true := by decide +kernel
      unfold rdOf
      rw [Int.toNat_natCast, List.getD_eq_getElem?_getD, List.getElem?_eq_getElem (by omega)]
      simpa using List.all_eq_true.1 h0 _ (List.getElem_mem _)
    have a1 := decode_f _ hs
    rw [bad_none _ hb] at a1
    rw [show k + (n + 1) + 1 = (k + n + 1) + 1 by omega, whisklaw09_NarKnown.l0, if_pos (by omega), if_pos (by omega), if_pos (by rw [hlen]; omega), a1, Option.bind_some, if_pos rfl, if_pos (by show zeroT.f1 = 0; rfl), wrap64_id ((i : Int) + 1) (by omega) (by omega), show ((i : Int) + 1) = ((i + 1 : Nat) : Int) by omega]
    exact loop13 n (i + 1) k (by omega)
theorem mb_le (n : Nat) (h : n ≤ 100) : MB.size + n ≤ 9223372036854775807 := by
  have : MB.size = 11 := rfl
  omega
theorem j0_13 : whisklaw09_NarKnown.j0 16 (MB ++ ⟨#[2, 1, 1, 98, 3, 1, 99]⟩) false ⟨#[]⟩ 2 false ⟨#[]⟩ [kT] = some true := by
  rw [whisklaw09_NarKnown.j0, if_neg (by decide)]
  have h := loop13 13 0 1 (by omega)
  simp only [magic_f, Option.bind_some, mb_le 3 (by decide), mb_le 2 (by decide), mb_le 1 (by decide), mb_le 6 (by decide), mb_le 12 (by decide), mb_le 8 (by decide), mb_le 4 (by decide), if_true]
  exact h
theorem NarKnown : whisklaw09_NarKnown.Pure := by
  refine ⟨16, ?_⟩
  have a1 : nar_Encode.f (⟨#[]⟩ : ByteArray) 2 false (⟨#[]⟩ : ByteArray) [kT] = some (encP lkT) := if_pos ⟨lkT_fit, lkT_sized⟩
  have a2 : nar_Encode.f (⟨#[]⟩ : ByteArray) 1 true (⟨#[]⟩ : ByteArray) ([] : List Tree) = some (encP exT) := if_pos ⟨leaf_fit _ _ _ _ (by decide) (by decide) (by decide), leaf_sized _ _ _ _ (by decide)⟩
  rw [lkT_enc] at a1
  rw [exT_enc] at a2
  unfold whisklaw09_NarKnown.f
  rw [Option.bind_some, show (⟨⟨#[98]⟩, 3, false, ⟨#[99]⟩, []⟩ : Tree) = kT from rfl, a1, Option.bind_some, a2, Option.bind_some, if_pos rfl, if_pos rfl, magic_f, Option.bind_some, if_pos (mb_le 7 (by decide)), if_pos rfl, Option.bind_some, if_pos (mb_le 3 (by decide))]
  have e : ((MB ++ ⟨#[1, 1, 0]⟩).toList != (MB ++ ⟨#[1, 1, 0]⟩).toList) = false := bne_self_eq_false _
  rw [e]
  exact j0_13
end Go.Proofs.Ytnnpfahlfmeakaa.Pure

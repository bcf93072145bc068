import Derived.Test.YtnnpfahlfmeakaaQNarReads25
import Derived.Test.YtnnpfahlfmeakaaQNarReads31
import Derived.Test.YtnnpfahlfmeakaaQNarReads32
import Derived.Test.YtnnpfahlfmeakaaQNarReads34
import Derived.Test.YtnnpfahlfmeakaaQNarReads37
namespace Go.Proofs.Ytnnpfahlfmeakaa
open Go.RowKit Go.Proofs.Ytnnpfahlfmeakaa.PB Go.Proofs.YtnnpfahlfmeakaaW.PrintWords Go.Proofs.YtnnpfahlfmeakaaW.PrintLast
set_option linter.unusedVariables false
set_option linter.unusedSimpArgs false
theorem enc_ok (t : Tree) (h : (encP t).2 = 0) : checkP t = 0 ∧ encP t = (magicB ++ nodeB t, 0) ∧ (magicB ++ nodeB t).size ≤ 60000 := by
  by_cases h0 : checkP t = 0
  · by_cases h1 : 60000 < (magicB ++ nodeB t).size
    · unfold encP at h; rw [if_pos h0, if_pos h1] at h; cases h
    · exact ⟨h0, by unfold encP; rw [if_pos h0, if_neg h1], by omega⟩
  · unfold encP at h; rw [if_neg h0] at h; exact absurd h h0
theorem ba_empty (s : ByteArray) (h : s.data.toList = []) : s = ⟨#[]⟩ := by
  obtain ⟨⟨d⟩⟩ := s
  simp at h; subst h; rfl
theorem unname_id (t : Tree) (h : t.f0.data.toList = []) : unname t = t := by
  cases t
  simp only [unname]
  rw [← ba_empty _ h]
theorem magic_text (l : List UInt8) : textR (bl magicB ++ l) = some ([119, 104, 105, 115, 107, 45, 116, 114, 101, 101], l) := textR_enc ⟨#[119, 104, 105, 115, 107, 45, 116, 114, 101, 101]⟩ (by decide) l
theorem magic_str : (str [119, 104, 105, 115, 107, 45, 116, 114, 101, 101]).toList = ([119, 104, 105, 115, 107, 45, 116, 114, 101, 101] : List UInt8) := by
  rw [tl_eq]; exact bl_str _
theorem decode_enc (t : Tree) (hf : Fit t) (h : (encP t).2 = 0) : decodeP (encP t).1 = some t := by
  obtain ⟨h0, h1, h2⟩ := enc_ok t h
  obtain ⟨b1, b2, b3, b4, b5⟩ := checkP_ok t h0
  have e : (encP t).1 = magicB ++ nodeB t := by rw [h1]
  unfold decodeP
  rw [e]
  have m := magic_text (bl (nodeB t))
  have n := nodeR_enc 13 t hf b3 (by omega) b4 []
  rw [List.append_nil, unname_id t b2] at n
  show (textR (bl (magicB ++ nodeB t))).bind _ = _
  rw [bl_append, m]
  simp only [Option.bind_some]
  rw [if_pos magic_str, n]
  simp only [Option.bind_some]
  rw [if_pos ⟨trivial, h, by rw [e]⟩]
/-- What is taken are a tree's bytes. -/
theorem decode_some (s : ByteArray) (hs : s.size ≤ 140737488351232) (t : Tree) (h : decodeP s = some t) : Fit t ∧ Sized t ∧ encP t = (s, 0) := by
  unfold decodeP at h
  obtain ⟨p, hp, h⟩ := Option.bind_eq_some_iff.1 h
  split at h
  · obtain ⟨q, hq, h⟩ := Option.bind_eq_some_iff.1 h
    split at h
    · rename_i h3
      injection h with h; subst h
      obtain ⟨f1, f2⟩ := parsed_fit s hs p q hp hq
      refine ⟨f1, f2, Prod.ext ?_ h3.2.1⟩
      have := h3.2.2
      rw [tl_eq, tl_eq] at this
      exact ByteArray.ext (Array.toList_inj.1 this)
    · cases h
  · cases h
theorem encNum_small (n : Nat) (h : n < 128) : encNum n = ⟨#[UInt8.ofNat n]⟩ := by
  have e : bl (encNum n) = [UInt8.ofNat n] := by
    rw [bl_encNum, show nd n = 0 by unfold nd; rw [if_pos h], bd_zero, Nat.mod_eq_of_lt h]
  rw [← str_bl (encNum n), e]; rfl
def xT : Tree := ⟨⟨#[]⟩, 1, false, ⟨#[120]⟩, []⟩
theorem xT_fit : Fit xT := Fit.mk _ (Nat.zero_le 140737488351232) (by show (-9223372036854775808 : Int) ≤ 1 ∧ (1 : Int) ≤ 9223372036854775807; decide) (by show (⟨#[120]⟩ : ByteArray).size ≤ 140737488351232; decide) (Nat.zero_le 1954687338212) (fun k hk => by cases hk)
theorem xT_sized : Sized xT := fun _ _ => by
  show sizeN ⟨⟨#[]⟩, 1, false, ⟨#[120]⟩, []⟩ + sizeB ⟨⟨#[]⟩, 1, false, ⟨#[120]⟩, []⟩ < 4611686018427387904
  simp only [sizeN, sizeB, sizeNs, sizeBs]
  have : (⟨#[120]⟩ : ByteArray).size = 1 := rfl
  omega
theorem magic_is : magicB = ⟨#[10, 119, 104, 105, 115, 107, 45, 116, 114, 101, 101]⟩ := by
  unfold magicB textB
  rw [show (⟨#[119, 104, 105, 115, 107, 45, 116, 114, 101, 101]⟩ : ByteArray).size = 10 from rfl, encNum_small 10 (by decide)]
  rfl
theorem xT_bytes : nodeB xT = ⟨#[1, 0, 1, 120]⟩ := by
  show nodeB ⟨⟨#[]⟩, 1, false, ⟨#[120]⟩, []⟩ = _
  simp only [nodeB, if_true, Int.reduceToNat, Bool.false_eq_true, if_false]
  rw [show (⟨#[120]⟩ : ByteArray).size = 1 from rfl, encNum_small 1 (by decide), encNum_small 0 (by decide)]
  rfl
theorem xT_check : checkP xT = 0 := by
  have h1 : depthP xT = 1 := by show depthP ⟨⟨#[]⟩, 1, false, ⟨#[120]⟩, []⟩ = 1; simp [depthP]
  have h2 : mayP xT = true := by show mayP ⟨⟨#[]⟩, 1, false, ⟨#[120]⟩, []⟩ = true; simp [mayP]
  have h3 : sizeN xT = 1 := by show sizeN ⟨⟨#[]⟩, 1, false, ⟨#[120]⟩, []⟩ = 1; simp [sizeN, sizeNs]
  have h4 : sizeB xT = 1 := by show sizeB ⟨⟨#[]⟩, 1, false, ⟨#[120]⟩, []⟩ = 1; simp [sizeB, sizeBs]; rfl
  unfold checkP
  rw [h1, h2, h3, h4, if_neg (by decide), if_pos ⟨rfl, rfl⟩, if_neg (by decide)]
theorem xT_enc : encP xT = (⟨#[10, 119, 104, 105, 115, 107, 45, 116, 114, 101, 101, 1, 0, 1, 120]⟩, 0) := by
  have e : magicB ++ nodeB xT = ⟨#[10, 119, 104, 105, 115, 107, 45, 116, 114, 101, 101, 1, 0, 1, 120]⟩ := by rw [magic_is, xT_bytes]; rfl
  unfold encP
  rw [if_pos xT_check, e, if_neg (by decide)]
theorem works_f : whisklaw09_works.f = some true := by
  unfold whisklaw09_works.f
  have a1 : nar_Encode.f (⟨#[]⟩ : ByteArray) 1 false (⟨#[120]⟩ : ByteArray) ([] : List Tree) = some (encP xT) := if_pos ⟨xT_fit, xT_sized⟩
  have a2 : whisklaw09_magic.f = some (⟨#[10, 119, 104, 105, 115, 107, 45, 116, 114, 101, 101]⟩ : ByteArray) := rfl
  have a3 := decode_f ⟨#[10, 119, 104, 105, 115, 107, 45, 116, 114, 101, 101, 1, 0, 1, 120]⟩ (by decide)
  have a4 := decode_enc xT xT_fit (by rw [xT_enc])
  rw [xT_enc] at a4
  have a5 : decodeR ⟨#[10, 119, 104, 105, 115, 107, 45, 116, 114, 101, 101, 1, 0, 1, 120]⟩ = (xT, 0) := by unfold decodeR; rw [a4]
  rw [a5] at a3
  rw [a1, a2, xT_enc]
  simp only [Option.bind_some]
  rw [if_pos (by decide), show (⟨#[10, 119, 104, 105, 115, 107, 45, 116, 114, 101, 101]⟩ : ByteArray) ++ ⟨#[1, 0, 1, 120]⟩ = ⟨#[10, 119, 104, 105, 115, 107, 45, 116, 114, 101, 101, 1, 0, 1, 120]⟩ from rfl, a3]
  simp only [Option.bind_some, if_true]
  rw [if_pos (by decide)]
  rw [if_pos (by show xT.f1 = 1; rfl), if_pos (by show xT.f3.toList = [120]; rw [tl_eq]; rfl)]
  rfl
end Go.Proofs.Ytnnpfahlfmeakaa
namespace Go.Proofs.Ytnnpfahlfmeakaa
open Go.RowKit Go.Proofs.Ytnnpfahlfmeakaa.PB Go.Proofs.YtnnpfahlfmeakaaW.PrintWords Go.Proofs.YtnnpfahlfmeakaaW.PrintLast
set_option linter.unusedVariables false
set_option linter.unusedSimpArgs false
def FitR (f : List UInt8 → Bool → RdV) : Prop := ∀ l lost, l.length ≤ 140737488351232 → (f l lost).2.1 = true → lost = false ∧ (f l lost).2.2.2 = false ∧ Fit (f l lost).1 ∧ (f l lost).2.2.1.length + sizeN (f l lost).1 + sizeB (f l lost).1 ≤ l.length
theorem rdK_fit {f : List UInt8 → Bool → RdV} (hf : FitR f) : ∀ (n : Nat) (l : List UInt8) (lost : Bool) (acc : List Tree), l.length ≤ 140737488351232 → (rdK f n l lost acc).2.1 = true →
    lost = false ∧ (rdK f n l lost acc).2.2.2 = false ∧ ∃ ks, (rdK f n l lost acc).1 = acc ++ ks ∧ ks.length = n ∧ (∀ x ∈ ks, Fit x) ∧ (rdK f n l lost acc).2.2.1.length + sizeNs ks + sizeBs ks ≤ l.length
  | 0, l, lost, acc, hl, h => by
    simp only [rdK] at h ⊢
    have h2 : lost = false := by simpa using h
    exact ⟨h2, h2, ([] : List Tree), (List.append_nil acc).symm, rfl, (fun x hx => absurd hx (by simp)), (by simp [sizeNs, sizeBs])⟩
  | n + 1, l, lost, acc, hl, h => by
    have h1 := txF_ok lost l
    have h1' := txF_len lost l
    have h2 := hf (txF l lost).2.1 (txF l lost).2.2 (by omega)
    simp only [rdK] at h ⊢
    generalize txF l lost = q at *
    generalize f q.2.1 q.2.2 = v at *
    by_cases hv : v.2.1 = true
    · rw [if_pos hv] at h ⊢
      obtain ⟨a1, a2, a3, a4⟩ := h2 hv
      obtain ⟨b1, b2⟩ := h1 a1
      obtain ⟨c1, c2, ks, c3, c4, c5, c6⟩ := rdK_fit hf n v.2.2.1 v.2.2.2 (acc ++ [⟨str q.1, v.1.f1, v.1.f2, v.1.f3, v.1.f4⟩]) (by omega) h
      have e1 : sizeN ⟨str q.1, v.1.f1, v.1.f2, v.1.f3, v.1.f4⟩ = sizeN v.1 := by rw [sizeN_eq, sizeN_eq]
      have e2 : sizeB ⟨str q.1, v.1.f1, v.1.f2, v.1.f3, v.1.f4⟩ = sizeB v.1 := by rw [sizeB_eq, sizeB_eq]
      refine ⟨b1, c2, ⟨str q.1, v.1.f1, v.1.f2, v.1.f3, v.1.f4⟩ :: ks, by rw [c3, List.append_assoc]; rfl, by simp [c4], fun x hx => ?_, ?_⟩
      · rcases List.mem_cons.1 hx with rfl | hx
        · exact Fit.mk _ (by show (str q.1).size ≤ _; rw [str_len]; omega) a3.kind a3.data a3.kids a3.kid
        · exact c5 x hx
      · simp only [sizeNs, sizeBs, e1, e2]; omega
    · rw [if_neg hv] at h; cases h
theorem rdH_fit (f : Option (List UInt8 → Bool → RdV)) (hf : ∀ g, f = some g → FitR g) : FitR (rdH f) := by
  intro l lost hl h
  have a1 := after_ok lost l
  have a2 := after_ok (after lost (refNum l)).2 (after lost (refNum l)).1
  have a3 := after_len lost l
  have a4 := after_len (after lost (refNum l)).2 (after lost (refNum l)).1
  unfold rdH at h ⊢
  generalize after lost (refNum l) = A at *
  generalize numOf (refNum l) = n at *
  split at h
  · rename_i k1
    rw [if_pos k1]
    generalize after A.2 (refNum A.1) = B at *
    have a5 := txF_ok B.2 B.1
    generalize txF B.1 B.2 = q at *
    have hq : q.2.2 = false := by
      simp only [Bool.and_eq_true, Bool.not_eq_true'] at h
      exact h.2
    obtain ⟨b1, b2⟩ := a5 hq
    obtain ⟨b3, b4⟩ := a2 b1
    obtain ⟨b5, b6⟩ := a1 b3
    refine ⟨b5, hq, Fit.mk _ (Nat.zero_le 140737488351232) (by dsimp only; constructor <;> decide) (by show (str q.1).size ≤ _; rw [str_len]; omega) (by simp) (fun k hk => by cases hk), ?_⟩
    simp only [sizeN, sizeB, sizeNs, sizeBs, str_len]; omega
  · rename_i k1
    rw [if_neg k1]
    split at h
    · rename_i k3
      rw [if_pos k3]
      have a5 := txF_ok A.2 A.1
      generalize txF A.1 A.2 = q at *
      have hq : q.2.2 = false := by simpa using h
      obtain ⟨b1, b2⟩ := a5 hq
      obtain ⟨b5, b6⟩ := a1 b1
      refine ⟨b5, hq, Fit.mk _ (Nat.zero_le 140737488351232) (by dsimp only; constructor <;> decide) (by show (str q.1).size ≤ _; rw [str_len]; omega) (by simp) (fun k hk => by cases hk), ?_⟩
      simp only [sizeN, sizeB, sizeNs, sizeBs, str_len]; omega
    · rename_i k3
      rw [if_neg k3]
      split at h
      · rename_i k2
        rw [if_pos k2]
        generalize after A.2 (refNum A.1) = B at *
        generalize numOf (refNum A.1) = c at *
        unfold rdD at h ⊢
        cases f with
        | none => cases h
        | some g =>
          simp only at h ⊢
          split at h
          · cases h
          · rename_i k5
            rw [if_neg k5]
            obtain ⟨b1, b2, ks, b3, b4, b5, b6⟩ := rdK_fit (hf g rfl) c B.1 B.2 [] (by omega) h
            obtain ⟨c3, c4⟩ := a2 b1
            obtain ⟨c5, c6⟩ := a1 c3
            have hks := sizeNs_len ks
            simp only [List.nil_append] at b3
            refine ⟨c5, b2, Fit.mk _ (Nat.zero_le 140737488351232) (by dsimp only; constructor <;> decide) (Nat.zero_le 140737488351232) (by show (rdK g c B.1 B.2 []).1.length ≤ _; rw [b3]; omega) (by show ∀ k ∈ (rdK g c B.1 B.2 []).1, Fit k; rw [b3]; exact b5), ?_⟩
            simp only [sizeN, sizeB, b3]
            have : (⟨#[]⟩ : ByteArray).size = 0 := rfl
            omega
      · cases h
theorem rdP_fit : ∀ (m : Nat), FitR (rdP m)
  | 0 => rdH_fit none (fun g h => by cases h)
  | m + 1 => rdH_fit _ (fun g h => by cases h; exact rdP_fit m)
theorem highs_bd (n : Nat) (l : List UInt8) : ∀ k, highs (bd k n ++ l) = k
  | 0 => by
    have e := u8_lt (n % 128) (by omega)
    rw [bd_zero]
    generalize UInt8.ofNat (n % 128) = c at e ⊢
    have h2 : ¬ 128 ≤ c := by rw [UInt8.le_iff_toNat_le]; show ¬ 128 ≤ c.toNat; omega
    simp [highs, List.takeWhile_cons, h2]
  | k + 1 => by
    have e := u8_lt (n / 128 ^ (k + 1) % 128 + 128) (by omega)
    rw [bd_succ]
    generalize UInt8.ofNat (n / 128 ^ (k + 1) % 128 + 128) = c at e ⊢
    have h2 : 128 ≤ c := by rw [UInt8.le_iff_toNat_le]; show 128 ≤ c.toNat; omega
    have ih := highs_bd n l k
    simp only [highs, List.cons_append, List.takeWhile_cons, h2, decide_true, if_true, List.length_cons] at ih ⊢
    omega
theorem refNum_enc (n : Nat) (hn : n < 18446744073709551616) (l : List UInt8) : refNum (bl (encNum n) ++ l) = some (n, l) := by
  have h9 := nd_le n hn
  have hb := bl_encNum n
  rw [hb]
  unfold refNum
  have e1 : (bd (nd n) n ++ l).take (nd n + 1) = bd (nd n) n := by rw [List.take_append_of_le_length (by rw [bd_length]; omega), List.take_of_length_le (by rw [bd_length]; omega)]
  have e2 : (bd (nd n) n ++ l).drop (nd n + 1) = l := by
    have := List.drop_left (l₁ := bd (nd n) n) (l₂ := l)
    rwa [bd_length] at this
  have e3 : numVal (bd (nd n) n) = n := by
    have := val_bd n hn (nd n)
    rw [nd_zero] at this
    exact this
  rw [highs_bd, if_pos ⟨by rw [List.length_append, bd_length]; omega, h9⟩, e1, e2, e3, if_pos (by rw [← hb, str_bl])]
theorem after_some {α : Type} (lost : Bool) (n : α) (r : List UInt8) : after lost (some (n, r)) = (r, lost) := rfl
theorem numOf_some (n : Nat) (r : List UInt8) : numOf (some (n, r)) = n := rfl
theorem txF_enc (t : ByteArray) (hn : t.size < 18446744073709551616) (l : List UInt8) : txF (bl (encNum t.size ++ t) ++ l) false = (bl t, l, false) := by
  have h : (bl t).length = t.size := rfl
  rw [bl_append, List.append_assoc]
  unfold txF
  rw [refNum_enc _ hn]
  show (if (bl t ++ l).length < t.size then _ else ((bl t ++ l).take t.size, (bl t ++ l).drop t.size, false)) = _
  rw [if_neg (by rw [List.length_append]; omega), ← h, List.take_left, List.drop_left]
theorem txF_enc2 (t : ByteArray) (hn : t.size < 18446744073709551616) (l : List UInt8) : txF (bl (encNum t.size) ++ (bl t ++ l)) false = (bl t, l, false) := by
  have := txF_enc t hn l
  rwa [bl_append, List.append_assoc] at this
theorem rdK_enc {f : List UInt8 → Bool → RdV} : ∀ (ks : List Tree) (l : List UInt8) (acc : List Tree), (∀ x ∈ ks, x.f0.size < 18446744073709551616) → (∀ x ∈ ks, ∀ l, f (bl (nodeB x) ++ l) false = (unname x, true, l, false)) → rdK f ks.length (bl (kidsB ks) ++ l) false acc = (acc ++ ks, true, l, false)
  | [], l, acc, _, _ => by simp [kidsB, rdK, bl]
  | k :: r, l, acc, hn, hf => by
    simp only [kidsB, List.length_cons, rdK]
    rw [bl_append, List.append_assoc, txF_enc _ (hn k (by simp))]
    simp only
    rw [bl_append, List.append_assoc, hf k (by simp)]
    simp only [if_true]
    rw [rdK_enc r l _ (fun x hx => hn x (by simp [hx])) (fun x hx => hf x (by simp [hx]))]
    simp only [unname, str_bl, List.append_assoc]
    cases k; rfl
theorem rdP_enc : ∀ (m : Nat) (t : Tree), Fit t → mayP t = true → depthP t ≤ m → sizeN t ≤ 2000 → ∀ l, rdP m (bl (nodeB t) ++ l) false = (unname t, true, l, false)
  | 0, t, _, _, hd, _, l => by rw [depthP_eq] at hd; split at hd <;> omega
  | m + 1, t, hf, hm, hd, hz, l => by
    have ih : ∀ x ∈ t.f4, ∀ l, rdP m (bl (nodeB x) ++ l) false = (unname x, true, l, false) := by
      intro x hx
      have h1 := depth_kid t hm x hx
      have h2 : sizeN x ≤ 2000 := by
        rw [sizeN_eq] at hz
        have : ∀ (ks : List Tree), x ∈ ks → sizeN x ≤ sizeNs ks := by
          intro ks
          induction ks with
          | nil => intro h; cases h
          | cons y r ih =>
            intro h
            simp only [sizeNs]
            rcases List.mem_cons.1 h with rfl | h
            · omega
            · have := ih h; omega
        have := this t.f4 hx
        omega
      exact rdP_enc m x (hf.kid x hx) ((mayP_kids t hm).2 x hx) (by omega) h2
    have hz2 : t.f4.length ≤ 2000 := by
      rw [sizeN_eq] at hz
      have := sizeNs_len t.f4
      omega
    have hnm : ∀ x ∈ t.f4, x.f0.size < 18446744073709551616 := fun x hx => by have := (hf.kid x hx).name; omega
    have hdt := hf.data
    clear hf hd hz
    obtain ⟨nm, kd, ex, dt, ks⟩ := t
    dsimp only at *
    show rdH (some (rdP m)) _ _ = _
    unfold rdH
    simp only [nodeB]
    by_cases k1 : kd = 1
    · subst k1
      have hn : ks = [] := by simpa [mayP] using hm
      subst hn
      have r1 := refNum_enc 1 (by decide)
      have r2 := refNum_enc (if ex = true then 1 else 0) (by cases ex <;> decide)
      have r3 := txF_enc2 dt (by omega)
      simp only [if_true, Int.reduceToNat, bl_append, List.append_assoc, r1, after_some, numOf_some, r2, r3, str_bl, unname]
      cases ex <;> rfl
    by_cases k2 : kd = 2
    · subst k2
      obtain ⟨⟨hx, hdz⟩, hmk⟩ : (ex = false ∧ dt.data.toList = []) ∧ mayKids none ks = true := by simpa [mayP] using hm
      subst hx
      have hdz2 := ba_empty dt hdz
      subst hdz2
      simp only [Int.reduceEq, if_false, Int.reduceToNat]
      rw [bl_append, List.append_assoc, refNum_enc _ (by decide)]
      simp only [after_some, numOf_some]
      rw [if_neg (by decide), if_neg (by decide), if_pos (by decide), bl_append, List.append_assoc, refNum_enc _ (by omega)]
      simp only [after_some, numOf_some]
      unfold rdD
      simp only
      rw [if_neg (by intro h; rcases h with h | h; omega; cases h), rdK_enc ks l [] hnm ih]
      rfl
    by_cases k3 : kd = 3
    · subst k3
      have hx : ex = false ∧ ks = [] := by simp [mayP] at hm; exact ⟨hm.1.1.1.2, hm.1.1.1.1⟩
      obtain ⟨rfl, rfl⟩ := hx
      simp only [Int.reduceEq, if_false, if_true, Int.reduceToNat]
      rw [bl_append, List.append_assoc, refNum_enc _ (by decide)]
      simp only [after_some, numOf_some]
      rw [if_neg (by decide), if_pos (by decide), txF_enc _ (by omega)]
      simp only [str_bl, unname]
      rfl
    simp [mayP, k1, k2, k3] at hm
end Go.Proofs.Ytnnpfahlfmeakaa
namespace Go.Proofs.Ytnnpfahlfmeakaa.PB
open Go.RowKit Go.Proofs.Ytnnpfahlfmeakaa Go.Proofs.YtnnpfahlfmeakaaW.PrintWords Go.Proofs.YtnnpfahlfmeakaaW.PrintLast
set_option linter.unusedVariables false
set_option linter.unusedSimpArgs false
/-- A tree's bytes, as the document's reader sees them. -/
theorem ref_ok (s : ByteArray) (hs : s.size ≤ 140737488351232) (t : Tree) (h : decodeP s = some t) : encP t = (s, 0) ∧ txF (bl s) false = ([119, 104, 105, 115, 107, 45, 116, 114, 101, 101], bl (nodeB t), false) ∧ rdP 13 (bl (nodeB t)) false = (t, true, [], false) := by
  obtain ⟨h1, h2, h3⟩ := decode_some s hs t h
  have h4 : (encP t).2 = 0 := by rw [h3]
  obtain ⟨a1, a2, a3⟩ := enc_ok t h4
  obtain ⟨b1, b2, b3, b4, b5⟩ := checkP_ok t a1
  have e : s = magicB ++ nodeB t := by rw [a2] at h3; exact (congrArg Prod.fst h3).symm
  refine ⟨h3, ?_, ?_⟩
  · rw [e, bl_append]
    exact txF_enc ⟨#[119, 104, 105, 115, 107, 45, 116, 114, 101, 101]⟩ (by decide) (bl (nodeB t))
  · have := rdP_enc 13 t h1 b3 (by omega) b4 []
    rw [List.append_nil, unname_id t b2] at this
    exact this
theorem dec_zero (s : ByteArray) (h : ∀ t, decodeP s ≠ some t) : decodeR s = (zeroT, 4) := by
  unfold decodeR
  cases hd : decodeP s with
  | none => rfl
  | some t => exact absurd hd (h t)
theorem is_magic (l : List UInt8) : ((str l).toList == ([119, 104, 105, 115, 107, 45, 116, 114, 101, 101] : List UInt8)) = (l == [119, 104, 105, 115, 107, 45, 116, 114, 101, 101]) := by
  rw [tl_eq]; show (bl (str l) == _) = _; rw [bl_str]
set_option maxRecDepth 100000 in
set_option maxHeartbeats 4000000 in
theorem refDecode_any (s : ByteArray) (hs : s.size ≤ 140737488351232) (w : World) :
    Calls Try.prog 14 #[.string s] w (DecPost w (decodeR s)) := by
  have hu24 := Try.underlying24
  have hu62 := Try.underlying62
  obtain ⟨R, hR⟩ : ∃ R, DecPost w (decodeR s) = R := ⟨_, rfl⟩
  rw [hR]
  have HPOST := Aside0.mk hR
  have hlen : (bl s).length = s.size := rfl
  have q1 := txF_len false (bl s)
  have HTF := Aside0.mk (show whiskref01_Reader_Text.f s false = some (str (txF (bl s) false).1, str (txF (bl s) false).2.1, (txF (bl s) false).2.2) from by
    have := text_f (bl s) false (by omega)
    rwa [str_bl] at this)
  have HOKF := Aside0.mk (ref_ok s hs)
  generalize txF (bl s) false = q at *
  obtain ⟨k0, hk0⟩ := rdP_ev 13 (Nat.le_refl _) q.2.1 q.2.2 (by omega)
  have HRF := Aside0.mk (hk0 k0 (Nat.le_refl _))
  have q2 := rdP_len 13 q.2.1 q.2.2
  have HFIT := Aside0.mk (rdP_fit 13 q.2.1 q.2.2 (by omega))
  have HVAL := Aside0.mk (fun t (h : q.2 = (bl (nodeB t), false)) => (congrArg (fun p : List UInt8 × Bool => rdP 13 p.1 p.2) h : rdP 13 q.2.1 q.2.2 = rdP 13 (bl (nodeB t)) false))
  generalize rdP 13 q.2.1 q.2.2 = v at *
  obtain ⟨⟨t0, t1, t2, t3, t4⟩, is, rest, lost⟩ := v
  have HSZ := Aside0.mk (show rest.length ≤ 140737488351232 from by have : rest.length ≤ q.2.1.length := q2; omega)
  have HQL := Aside0.mk (show q.2.1.length ≤ (bl s).length from q1)
  have HLS := Aside0.mk (show (bl s).length ≤ 140737488351232 from hs)
  obtain ⟨qt, qr, ql⟩ := q
  dsimp only [tup] at *
  clear hk0 hR q1 q2 hs hlen
  have HDEC := Aside0.mk (fun t (h : decodeP s = some t) => (by
    obtain ⟨a1, a2, a3⟩ := HOKF.out t h
    injection a2 with a2 a4
    have a5 := HVAL.out t a4
    rw [a3] at a5
    injection a5 with a5 a6
    injection a6 with a6 a7
    injection a7 with a7 a8
    exact ⟨a2, a6, a7, a8, a5, a1⟩ : qt = [119, 104, 105, 115, 107, 45, 116, 114, 101, 101] ∧ is = true ∧ rest = [] ∧ lost = false ∧ (⟨t0, t1, t2, t3, t4⟩ : Tree) = t ∧ encP t = (s, 0)))
  clear HOKF HVAL
  go_enter Try.func14, Try.ntmps14
  go_wp2_with fail
  have N1 := Aside0.mk (show NAt (w.alloc (.cells #[.string ⟨#[]⟩, .int .i64 0, .bool false, .string ⟨#[]⟩, .slice none 0 0] 24)) w.heap.size ⟨#[]⟩ 0 false ⟨#[]⟩ (.slice none 0 0) from heap_alloc_new w _)
  have B1 := Aside0.mk (below_alloc (Below.refl _ w) (.cells #[.string ⟨#[]⟩, .int .i64 0, .bool false, .string ⟨#[]⟩, .slice none 0 0] 24))
  have S1 := Aside0.mk (show (w.alloc (.cells #[.string ⟨#[]⟩, .int .i64 0, .bool false, .string ⟨#[]⟩, .slice none 0 0] 24)).heap.size = w.heap.size + 1 from Array.size_push _)
  obtain ⟨p0, hp0⟩ : ∃ p0, w.heap.size = p0 := ⟨_, rfl⟩
  have HP0 := Aside0.mk hp0
  rw [hp0] at N1 S1 ⊢
  clear hp0
  generalize w.alloc (.cells #[.string ⟨#[]⟩, .int .i64 0, .bool false, .string ⟨#[]⟩, .slice none 0 0] 24) = W1 at N1 B1 S1 ⊢
  have I2 := Aside0.mk (show IsS62 W1 (W1.alloc (.cells #[.string s, .bool false] 62)) (p0 + 1) s false from ⟨by have := heap_alloc_new W1 (.cells #[.string s, .bool false] 62); rwa [S1.out] at this, by rw [S1.out]; exact Nat.le_refl _⟩)
  have B2 := Aside0.mk (below_alloc (Below.refl _ W1) (.cells #[.string s, .bool false] 62))
  generalize W1.alloc (.cells #[.string s, .bool false] 62) = W2 at I2 B2 ⊢
  refine (whiskref01_Reader_Text.calls (p0 + 1) s false (str qt) (str qr) ql W1 W2 I2.out B2.out HTF.out).mono ?_
  rintro e w3 ⟨rfl, hi, hb, -⟩
  have HRC := Aside0.mk (whiskref09_read.calls k0 (p0 + 1) (str qr) ql 13 t0 t1 t2 t3 t4 is (str rest) lost W1 w3 hi hb HRF.out)
  have F5 := Aside0.mk (show p0 + 1 < w3.heap.size from blk_lt hi.1)
  clear hi hb I2 B2 HTF HRF
  go_wp2_with fail
  refine HRC.out.mono ?_
  rintro e w4 ⟨v4, rfl, hv, hi, hb, -⟩
  obtain ⟨Av, cv, rfl⟩ := Kd.R_slice hv
  have A5 := below_alloc (Below.refl _ w4) (.cells #[.string t0, .int .i64 t1, .bool t2, .string t3, .slice Av t4.length cv] 24)
  have N5 := Aside0.mk (show NAt (w4.alloc (.cells #[.string t0, .int .i64 t1, .bool t2, .string t3, .slice Av t4.length cv] 24)) w4.heap.size t0 t1 t2 t3 (.slice Av t4.length cv) from heap_alloc_new w4 _)
  have P4 : NAt w4 p0 ⟨#[]⟩ 0 false ⟨#[]⟩ (.slice none 0 0) := blk_below N1.out hb
  have P5 := Aside0.mk (show NAt (w4.alloc (.cells #[.string t0, .int .i64 t1, .bool t2, .string t3, .slice Av t4.length cv] 24)) p0 ⟨#[]⟩ 0 false ⟨#[]⟩ (.slice none 0 0) from blk_below P4 A5)
  have I5 := Aside0.mk (show IsS62 W1 (w4.alloc (.cells #[.string t0, .int .i64 t1, .bool t2, .string t3, .slice Av t4.length cv] 24)) (p0 + 1) (str rest) lost from hi.alloc _)
  have B5 := Aside0.mk (show Below W1.heap.size W1 (w4.alloc (.cells #[.string t0, .int .i64 t1, .bool t2, .string t3, .slice Av t4.length cv] 24)) from below_then hb hb.size A5)
  have V5 := Aside0.mk (Kd.R_below hv A5)
  have Q5 := Aside0.mk (show p0 < w4.heap.size from by have := blk_lt P4; omega)
  have G5 := Aside0.mk (show w4.heap.size ≠ p0 + 1 from by have := blk_lt hi.1; omega)
  clear hv hi hb HRC A5 P4
  have z0 := (blk_cell P5.out 0).trans (rfl : _ = some (Value.string ⟨#[]⟩)); have y0 := blk_nofreeze P5.out 0; have z1 := (blk_cell P5.out 1).trans (rfl : _ = some (Value.int .i64 0)); have y1 := blk_nofreeze P5.out 1; have z2 := (blk_cell P5.out 2).trans (rfl : _ = some (Value.bool false)); have y2 := blk_nofreeze P5.out 2; have z3 := (blk_cell P5.out 3).trans (rfl : _ = some (Value.string ⟨#[]⟩)); have y3 := blk_nofreeze P5.out 3; have z4 := (blk_cell P5.out 4).trans (rfl : _ = some (Value.slice none 0 0)); have y4 := blk_nofreeze P5.out 4
  have HM2 := Aside0.mk (is_magic qt)
  cases hmg : ((str qt).toList == ([119, 104, 105, 115, 107, 45, 116, 114, 101, 101] : List UInt8)) with
  | false =>
    go_wp2_with fail
    clear z0 z1 z2 z3 z4 y0 y1 y2 y3 y4
    refine bodyPost_ret (results_ct rfl _ _ p0 24 #[.string ⟨#[]⟩, .int .i64 0, .bool false, .string ⟨#[]⟩, .slice none 0 0] (0, 0) _ rfl (node_set P5.out) hu24 rfl (by kernel_rfl)) rfl ?_
    rw [← HPOST.out, dec_zero s (fun t h => by have a := (HDEC.out t h).1; rw [HM2.out, a] at hmg; simp at hmg)]
    have hw0 : w.heap.size ≤ p0 := by rw [HP0.out]; exact Nat.le_refl _
    have BB := below_then B1.out B1.out.size B5.out
    exact ⟨_, rfl, Kd.R_nil _ _ _ _ _, ((((BB.setCell (by exact hw0) _).setCell (by exact hw0) _).setCell (by exact hw0) _).setCell (by exact hw0) _).setCell (by exact hw0) _⟩
  | true =>
    cases is with
    | false =>
      go_wp2_with fail
      clear z0 z1 z2 z3 z4 y0 y1 y2 y3 y4
      refine bodyPost_ret (results_ct rfl _ _ p0 24 #[.string ⟨#[]⟩, .int .i64 0, .bool false, .string ⟨#[]⟩, .slice none 0 0] (0, 0) _ rfl (node_set P5.out) hu24 rfl (by kernel_rfl)) rfl ?_
      rw [← HPOST.out, dec_zero s (fun t h => by have a := (HDEC.out t h).2.1; cases a)]
      have hw0 : w.heap.size ≤ p0 := by rw [HP0.out]; exact Nat.le_refl _
      have BB := below_then B1.out B1.out.size B5.out
      exact ⟨_, rfl, Kd.R_nil _ _ _ _ _, ((((BB.setCell (by exact hw0) _).setCell (by exact hw0) _).setCell (by exact hw0) _).setCell (by exact hw0) _).setCell (by exact hw0) _⟩
    | true =>
      obtain ⟨l1, l2, hfit, hsz⟩ := HFIT.out rfl
      subst l2
      have HFS := Aside0.mk (And.intro hfit (show Sized ⟨t0, t1, t2, t3, t4⟩ from fun _ _ => by have := HLS.out; have := HSZ.out; have := HQL.out; omega))
      clear hfit hsz HFIT
      have HEND := Aside0.mk (whiskref01_Reader_End.calls (p0 + 1) (str rest) false ((str rest).toList == ([] : List UInt8)) (str rest) false W1 _ I5.out B5.out rfl)
      go_wp2_with fail
      clear z0 z1 z2 z3 z4 y0 y1 y2 y3 y4
      generalize w4.alloc (.cells #[.string t0, .int .i64 t1, .bool t2, .string t3, .slice Av t4.length cv] 24) = W5 at *
      refine HEND.out.mono ?_
      rintro e w6 ⟨rfl, -, hb6, hk6⟩
      have P6 := Aside0.mk (show NAt w6 p0 ⟨#[]⟩ 0 false ⟨#[]⟩ (.slice none 0 0) from (hk6.2 p0 (blk_lt P5.out) (by omega) (by simp)).trans P5.out)
      have N6 := Aside0.mk (show NAt w6 w4.heap.size t0 t1 t2 t3 (.slice Av t4.length cv) from (hk6.2 _ (blk_lt N5.out) G5.out (by simp)).trans N5.out)
      have B6 := Aside0.mk hb6
      have V6 := Aside0.mk (Kd.R_keep (Kd.R_bound V5.out) hk6 (fun k hk => by have := hk.2.1; have := F5.out; omega))
      clear hb6 hk6 HEND N5 P5 I5 B5 V5
      have z0 := (blk_cell P6.out 0).trans (rfl : _ = some (Value.string ⟨#[]⟩))
      have y0 := blk_nofreeze P6.out 0
      have z1 := (blk_cell P6.out 1).trans (rfl : _ = some (Value.int .i64 0))
      have y1 := blk_nofreeze P6.out 1
      have z2 := (blk_cell P6.out 2).trans (rfl : _ = some (Value.bool false))
      have y2 := blk_nofreeze P6.out 2
      have z3 := (blk_cell P6.out 3).trans (rfl : _ = some (Value.string ⟨#[]⟩))
      have y3 := blk_nofreeze P6.out 3
      have z4 := (blk_cell P6.out 4).trans (rfl : _ = some (Value.slice none 0 0))
      have y4 := blk_nofreeze P6.out 4
      have HR2 := Aside0.mk (show ((str rest).toList == ([] : List UInt8)) = (rest == []) from by rw [tl_eq]; show (bl (str rest) == _) = _; rw [bl_str])
      cases hrs : ((str rest).toList == ([] : List UInt8)) with
      | false =>
        go_wp2_with fail
        clear z0 z1 z2 z3 z4 y0 y1 y2 y3 y4
        refine bodyPost_ret (results_ct rfl _ _ p0 24 #[.string ⟨#[]⟩, .int .i64 0, .bool false, .string ⟨#[]⟩, .slice none 0 0] (0, 0) _ rfl (node_set P6.out) hu24 rfl (by kernel_rfl)) rfl ?_
        rw [← HPOST.out, dec_zero s (fun t h => by have a := (HDEC.out t h).2.2.1; rw [HR2.out, a] at hrs; cases hrs)]
        have hw0 : w.heap.size ≤ p0 := by rw [HP0.out]; exact Nat.le_refl _
        have BB := below_then B1.out B1.out.size B6.out
        exact ⟨_, rfl, Kd.R_nil _ _ _ _ _, ((((BB.setCell (by exact hw0) _).setCell (by exact hw0) _).setCell (by exact hw0) _).setCell (by exact hw0) _).setCell (by exact hw0) _⟩
      | true =>
        obtain ⟨k1, hk1⟩ := refEncode_ev ⟨t0, t1, t2, t3, t4⟩ HFS.out.1 HFS.out.2
        have HEF := Aside0.mk (hk1 k1 (Nat.le_refl _))
        clear hk1
        obtain ⟨en, hen⟩ : ∃ en, encP ⟨t0, t1, t2, t3, t4⟩ = en := ⟨_, rfl⟩
        have HEN2 := Aside0.mk hen
        rw [hen] at HEF
        clear hen
        obtain ⟨es, ee⟩ := en
        have HEN := Aside0.mk (show Calls Try.prog 11 #[.agg #[.string t0, .int .i64 t1, .bool t2, .string t3, .slice Av t4.length cv]] w6 fun e w' => e = .returned (.tuple #[.string es, .int .i64 ee]) ∧ Below w6.heap.size w6 w' from by
          obtain ⟨A, c, hac, hlc, hC⟩ := Kd.R_reads V6.out
          injection hac with h1 h2 h3
          subst h1; subst h3
          exact whiskref09_Encode.calls k1 t0 t1 t2 t3 Av cv t4 es ee w6 hC hlc HEF.out)
        have x0 := (blk_cell N6.out 0).trans (rfl : _ = some (Value.string t0))
        have u0 := blk_nofreeze N6.out 0
        have x1 := (blk_cell N6.out 1).trans (rfl : _ = some (Value.int .i64 t1))
        have u1 := blk_nofreeze N6.out 1
        have x2 := (blk_cell N6.out 2).trans (rfl : _ = some (Value.bool t2))
        have u2 := blk_nofreeze N6.out 2
        have x3 := (blk_cell N6.out 3).trans (rfl : _ = some (Value.string t3))
        have u3 := blk_nofreeze N6.out 3
        have x4 := (blk_cell N6.out 4).trans (rfl : _ = some (Value.slice Av t4.length cv))
        have u4 := blk_nofreeze N6.out 4
        go_wp2_with fail
        clear z0 z1 z2 z3 z4 y0 y1 y2 y3 y4 x0 x1 x2 x3 x4 u0 u1 u2 u3 u4
        refine HEN.out.mono ?_
        rintro e w7 ⟨rfl, hb7⟩
        have P7 := Aside0.mk (show NAt w7 p0 ⟨#[]⟩ 0 false ⟨#[]⟩ (.slice none 0 0) from blk_below P6.out hb7)
        have N7 := Aside0.mk (show NAt w7 w4.heap.size t0 t1 t2 t3 (.slice Av t4.length cv) from blk_below N6.out hb7)
        have B7 := Aside0.mk (below_then B6.out B6.out.size hb7)
        have V7 := Aside0.mk (Kd.R_below V6.out hb7)
        clear hb7 HEN P6 N6 B6 V6
        have z0 := (blk_cell P7.out 0).trans (rfl : _ = some (Value.string ⟨#[]⟩))
        have y0 := blk_nofreeze P7.out 0
        have z1 := (blk_cell P7.out 1).trans (rfl : _ = some (Value.int .i64 0))
        have y1 := blk_nofreeze P7.out 1
        have z2 := (blk_cell P7.out 2).trans (rfl : _ = some (Value.bool false))
        have y2 := blk_nofreeze P7.out 2
        have z3 := (blk_cell P7.out 3).trans (rfl : _ = some (Value.string ⟨#[]⟩))
        have y3 := blk_nofreeze P7.out 3
        have z4 := (blk_cell P7.out 4).trans (rfl : _ = some (Value.slice none 0 0))
        have y4 := blk_nofreeze P7.out 4
        have x0 := (blk_cell N7.out 0).trans (rfl : _ = some (Value.string t0))
        have u0 := blk_nofreeze N7.out 0
        have x1 := (blk_cell N7.out 1).trans (rfl : _ = some (Value.int .i64 t1))
        have u1 := blk_nofreeze N7.out 1
        have x2 := (blk_cell N7.out 2).trans (rfl : _ = some (Value.bool t2))
        have u2 := blk_nofreeze N7.out 2
        have x3 := (blk_cell N7.out 3).trans (rfl : _ = some (Value.string t3))
        have u3 := blk_nofreeze N7.out 3
        have x4 := (blk_cell N7.out 4).trans (rfl : _ = some (Value.slice Av t4.length cv))
        have u4 := blk_nofreeze N7.out 4
        cases h2 : (ee == 0) with
        | false =>
          have h2' : (ee != 0) = true := by simp [bne, h2]
          go_wp2_with fail
          clear z0 z1 z2 z3 z4 y0 y1 y2 y3 y4 x0 x1 x2 x3 x4 u0 u1 u2 u3 u4
          refine bodyPost_ret (results_ct rfl _ _ p0 24 #[.string ⟨#[]⟩, .int .i64 0, .bool false, .string ⟨#[]⟩, .slice none 0 0] (0, 0) _ rfl (node_set P7.out) hu24 rfl (by kernel_rfl)) rfl ?_
          rw [← HPOST.out, dec_zero s (fun t h => by obtain ⟨a1, a2, a3, a4, a5, a6⟩ := HDEC.out t h; rw [← a5, HEN2.out] at a6; injection a6 with a6 a7; rw [a7] at h2; cases h2)]
          have hw0 : w.heap.size ≤ p0 := by rw [HP0.out]; exact Nat.le_refl _
          have BB := below_then B1.out B1.out.size B7.out
          exact ⟨_, rfl, Kd.R_nil _ _ _ _ _, ((((BB.setCell (by exact hw0) _).setCell (by exact hw0) _).setCell (by exact hw0) _).setCell (by exact hw0) _).setCell (by exact hw0) _⟩
        | true =>
          have h2' : (ee != 0) = false := by simp [bne, h2]
          cases h3 : (es.toList == s.toList) with
          | false =>
            have h3' : (es.toList != s.toList) = true := by simp [bne, h3]
            go_wp2_with fail
            clear z0 z1 z2 z3 z4 y0 y1 y2 y3 y4 x0 x1 x2 x3 x4 u0 u1 u2 u3 u4
            refine bodyPost_ret (results_ct rfl _ _ p0 24 #[.string ⟨#[]⟩, .int .i64 0, .bool false, .string ⟨#[]⟩, .slice none 0 0] (0, 0) _ rfl (node_set P7.out) hu24 rfl (by kernel_rfl)) rfl ?_
            rw [← HPOST.out, dec_zero s (fun t h => by obtain ⟨a1, a2, a3, a4, a5, a6⟩ := HDEC.out t h; rw [← a5, HEN2.out] at a6; injection a6 with a6 a7; rw [a6] at h3; simp at h3)]
            have hw0 : w.heap.size ≤ p0 := by rw [HP0.out]; exact Nat.le_refl _
            have BB := below_then B1.out B1.out.size B7.out
            exact ⟨_, rfl, Kd.R_nil _ _ _ _ _, ((((BB.setCell (by exact hw0) _).setCell (by exact hw0) _).setCell (by exact hw0) _).setCell (by exact hw0) _).setCell (by exact hw0) _⟩
          | true =>
            have h3' : (es.toList != s.toList) = false := by simp [bne, h3]
            go_wp2_with fail
            clear z0 z1 z2 z3 z4 y0 y1 y2 y3 y4 x0 x1 x2 x3 x4 u0 u1 u2 u3 u4
            refine bodyPost_ret (results_ct rfl _ _ p0 24 #[.string t0, .int .i64 t1, .bool t2, .string t3, .slice Av t4.length cv] (0, 0) _ rfl (node_set P7.out) hu24 rfl (by kernel_rfl)) rfl ?_
            have hd : decodeR s = (⟨t0, t1, t2, t3, t4⟩, 0) := by
              have e0 : (ee : Int) = 0 := by simpa using h2
              have e1 : es = s := by
                have := (beq_iff_eq.mp h3)
                rw [tl_eq, tl_eq] at this
                exact ByteArray.ext (Array.toList_inj.1 this)
              have := decode_enc ⟨t0, t1, t2, t3, t4⟩ HFS.out.1 (by rw [HEN2.out]; exact e0)
              rw [HEN2.out, e1] at this
              unfold decodeR
              rw [this]
            rw [← HPOST.out, hd]
            have hw0 : w.heap.size ≤ p0 := by rw [HP0.out]; exact Nat.le_refl _
            have BB := below_then B1.out B1.out.size B7.out
            have KK := (((((Kept.refl w7 (fun k => k = p0)).setCell (p := ⟨p0, 0, none⟩) (.inl rfl) (.string t0)).setCell (p := ⟨p0, 1, none⟩) (.inl rfl) (.int .i64 t1)).setCell (p := ⟨p0, 2, none⟩) (.inl rfl) (.bool t2)).setCell (p := ⟨p0, 3, none⟩) (.inl rfl) (.string t3)).setCell (p := ⟨p0, 4, none⟩) (.inl rfl) (.slice Av t4.length cv)
            have V9 := Kd.R_kept (Kd.R_bound V7.out) KK (fun k hk e => by have := hk.2.1; have := F5.out; have : k = p0 := e; omega)
            exact ⟨_, rfl, Kd.R_lower (Kd.R_mono V9 (fun _ _ => trivial)) (by have := F5.out; rw [HP0.out]; omega), ((((BB.setCell (by exact hw0) _).setCell (by exact hw0) _).setCell (by exact hw0) _).setCell (by exact hw0) _).setCell (by exact hw0) _⟩
open Classical in
noncomputable def whiskref09_Decode.f (a0 : ByteArray) : Option (ByteArray × Int × Bool × ByteArray × (List S24) × Int) :=
  if a0.size ≤ 140737488351232 then some ((decodeR a0).1.f0, (decodeR a0).1.f1, (decodeR a0).1.f2, (decodeR a0).1.f3, (decodeR a0).1.f4, (decodeR a0).2) else none
theorem whiskref09_Decode.calls (a0 : ByteArray) (r0 : ByteArray) (r1 : Int) (r2 : Bool) (r3 : ByteArray) (r4 : List S24) (r5 : Int) (w : World) (h : whiskref09_Decode.f a0 = some (r0, r1, r2, r3, r4, r5)) :
    Calls Try.prog 14 #[.string a0] w fun e w' => ∃ v4_ : Value, e = .returned (.tuple #[.agg #[.string r0, .int .i64 r1, .bool r2, .string r3, v4_], .int .i64 r5]) ∧ Kd.R k24 24 w' w.heap.size (fun _ => True) v4_ r4 ∧ Below w.heap.size w w' := by
  unfold whiskref09_Decode.f at h
  split at h
  · rename_i hf
    have he := Option.some.inj h
    simp only [Prod.mk.injEq] at he
    obtain ⟨rfl, rfl, rfl, rfl, rfl, rfl⟩ := he
    exact refDecode_any a0 hf w
  · cases h
end Go.Proofs.Ytnnpfahlfmeakaa.PB

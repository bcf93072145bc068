import Derived.Test.YtnnpfahlfmeakaaQNarSize7
import Derived.Test.YtnnpfahlfmeakaaQNarSize14
import Derived.Test.YtnnpfahlfmeakaaQNarSize23
namespace Go.Proofs.Ytnnpfahlfmeakaa
open Go.Proofs.Ytnnpfahlfmeakaa.PB Go.Proofs.YtnnpfahlfmeakaaW.PrintWords
set_option linter.unusedVariables false
set_option linter.unusedSimpArgs false
def bl (s : ByteArray) : List UInt8 := s.data.toList
theorem bl_append (a b : ByteArray) : bl (a ++ b) = bl a ++ bl b := by simp [bl]
theorem bl_length (s : ByteArray) : (bl s).length = s.size := rfl
theorem str_bl (s : ByteArray) : str (bl s) = s := by simp [str, bl]
theorem bl_str (l : List UInt8) : bl (str l) = l := by simp [str, bl]
def bd (k n : Nat) : List UInt8 := (digs k n).map fun x => UInt8.ofNat x.toNat
theorem bd_zero (n : Nat) : bd 0 n = [UInt8.ofNat (n % 128)] := by simp only [bd, digs, List.map_cons, List.map_nil, Int.toNat_natCast]
theorem bd_succ (k n : Nat) : bd (k + 1) n = UInt8.ofNat (n / 128 ^ (k + 1) % 128 + 128) :: bd k n := by
  simp only [bd, digs, List.map_cons, Int.toNat_natCast]
theorem bl_encNum (n : Nat) : bl (encNum n) = bd (nd n) n := by simp [bl, encNum, strOfNums, bd]
theorem u8_lt (m : Nat) (h : m < 256) : (UInt8.ofNat m).toNat = m := by simp [UInt8.toNat_ofNat']; omega
theorem row_bd (b0 n : Nat) (l : List UInt8) (h9 : nd n ≤ 9) (hb : nd n = 9 → b0 ≤ 129) : ∀ (k i : Nat), i + k = nd n → rowFrom b0 i (bd k n ++ l) = nd n + 1
  | 0, i, h => by
    have e := u8_lt (n % 128) (by omega)
    rw [bd_zero]
    generalize UInt8.ofNat (n % 128) = c at e ⊢
    have h1 : ¬ (i = 0 ∧ c = 128) := by rintro ⟨_, rfl⟩; have : (128 : UInt8).toNat = 128 := rfl; omega
    have h2 : c < 128 := by rw [UInt8.lt_iff_toNat_lt]; show c.toNat < 128; omega
    show rowFrom b0 i (c :: l) = _
    unfold rowFrom
    rw [if_neg h1, if_neg (by intro hh; have := hb (by omega); omega), if_neg (by omega), if_pos h2]
    omega
  | k + 1, i, h => by
    have e := u8_lt (n / 128 ^ (k + 1) % 128 + 128) (by omega)
    have hz : i = 0 → n / 128 ^ (k + 1) % 128 ≠ 0 := by
      intro hi
      have h0 := nd_zero n
      have h1 := nd_pos n k (by omega)
      rw [show nd n = k + 1 by omega, ← div_pow_succ] at h0
      omega
    rw [bd_succ]
    generalize UInt8.ofNat (n / 128 ^ (k + 1) % 128 + 128) = c at e ⊢
    have h1 : ¬ (i = 0 ∧ c = 128) := by
      rintro ⟨hi, rfl⟩
      have := hz hi
      have : (128 : UInt8).toNat = 128 := rfl
      omega
    have h2 : ¬ c < 128 := by rw [UInt8.lt_iff_toNat_lt]; show ¬ c.toNat < 128; omega
    show rowFrom b0 i (c :: (bd k n ++ l)) = _
    rw [show rowFrom b0 i (c :: (bd k n ++ l)) = (if i = 0 ∧ c = 128 then 0 else if i = 9 ∧ 129 < b0 then 0 else if i = 10 then 0 else if c < 128 then i + 1 else rowFrom b0 (i + 1) (bd k n ++ l)) from rfl]
    rw [if_neg h1, if_neg (by omega), if_neg (by omega), if_neg h2]
    exact row_bd b0 n l h9 hb k (i + 1) (by omega)
theorem head_bd (k n : Nat) (l : List UInt8) : ((bd k n ++ l).headD 0).toNat = if k = 0 then n % 128 else n / 128 ^ k % 128 + 128 := by
  cases k with
  | zero => rw [bd_zero]; exact u8_lt _ (by omega)
  | succ k => rw [bd_succ]; exact u8_lt _ (by omega)
theorem bd_length (k n : Nat) : (bd k n).length = k + 1 := by simp [bd, digs_length]
theorem row_enc (n : Nat) (hn : n < 18446744073709551616) (l : List UInt8) : rowLen (bd (nd n) n ++ l) = nd n + 1 := by
  have h9 := nd_le n hn
  unfold rowLen
  refine row_bd _ n l h9 (fun h => ?_) (nd n) 0 (by omega)
  rw [head_bd, h, if_neg (by decide)]
  have : n / 128 ^ 9 < 2 := Nat.div_lt_of_lt_mul (by omega)
  omega
theorem val_bd (n : Nat) (hn : n < 18446744073709551616) : ∀ k, (bd k n).foldl (fun n c => (n * 128 + c.toNat % 128) % 18446744073709551616) (n / 128 ^ (k + 1)) = n
  | 0 => by
    have e := u8_lt (n % 128) (by omega)
    rw [bd_zero]
    simp only [List.foldl_cons, List.foldl_nil, e]
    omega
  | k + 1 => by
    have e := u8_lt (n / 128 ^ (k + 1) % 128 + 128) (by omega)
    have e2 := div_pow_succ n (k + 1)
    have e3 : n / 128 ^ (k + 1) ≤ n := Nat.div_le_self _ _
    rw [bd_succ, List.foldl_cons, e, ← e2]
    have ih := val_bd n hn k
    generalize n / 128 ^ (k + 1) = x at *
    rw [show (x / 128 * 128 + (x % 128 + 128) % 128) % 18446744073709551616 = x by omega]
    exact ih
theorem numR_enc (n : Nat) (hn : n < 18446744073709551616) (l : List UInt8) : numR (bl (encNum n) ++ l) = some (n, l) := by
  rw [bl_encNum]
  unfold numR
  rw [row_enc n hn l, if_neg (by omega)]
  have e1 : (bd (nd n) n ++ l).take (nd n + 1) = bd (nd n) n := by rw [List.take_append_of_le_length (by rw [bd_length]; omega), List.take_of_length_le (by rw [bd_length]; omega)]
  have e2 : (bd (nd n) n ++ l).drop (nd n + 1) = l := by
    have := List.drop_left (l₁ := bd (nd n) n) (l₂ := l)
    rwa [bd_length] at this
  rw [e1, e2]
  have := val_bd n hn (nd n)
  rw [nd_zero] at this
  unfold numVal
  rw [this]
theorem textR_enc (t : ByteArray) (hn : t.size < 18446744073709551616) (l : List UInt8) : textR (bl (encNum t.size ++ t) ++ l) = some (bl t, l) := by
  rw [bl_append, List.append_assoc]
  unfold textR
  rw [numR_enc _ hn]
  have h : (bl t).length = t.size := rfl
  simp only
  by_cases h0 : t.size = 0
  · rw [if_pos h0]
    have : bl t = [] := List.eq_nil_of_length_eq_zero (by omega)
    rw [this]; rfl
  · rw [if_neg h0, if_pos (by simp; omega)]
    rw [← h, List.take_left, List.drop_left]
def unname (t : Tree) : Tree := ⟨⟨#[]⟩, t.f1, t.f2, t.f3, t.f4⟩
theorem kidsR_enc {f : List UInt8 → Option (Tree × List UInt8)} : ∀ (ks : List Tree) (l : List UInt8), (∀ x ∈ ks, x.f0.size < 18446744073709551616) → (∀ x ∈ ks, ∀ l, f (bl (nodeB x) ++ l) = some (unname x, l)) → kidsR f ks.length (bl (kidsB ks) ++ l) = some (ks, l)
  | [], l, _, _ => by simp [kidsB, kidsR, bl]
  | k :: r, l, hn, hf => by
    simp only [kidsB, List.length_cons, kidsR_succ]
    rw [bl_append, List.append_assoc, textR_enc _ (hn k (by simp))]
    simp only [Option.bind_some]
    rw [bl_append, List.append_assoc, hf k (by simp)]
    simp only [Option.bind_some]
    rw [kidsR_enc r l (fun x hx => hn x (by simp [hx])) (fun x hx => hf x (by simp [hx]))]
    simp only [Option.bind_some, unname, str_bl]
    cases k; rfl
theorem sizeNs_len : ∀ (ks : List Tree), ks.length ≤ sizeNs ks
  | [] => by simp
  | k :: r => by
    have := sizeNs_len r
    simp only [sizeNs, List.length_cons]
    rw [sizeN_eq]
    omega
theorem nodeR_enc : ∀ (m : Nat) (t : Tree), Fit t → mayP t = true → depthP t ≤ m → sizeN t ≤ 2000 → ∀ l, nodeR m (bl (nodeB t) ++ l) = some (unname t, l)
  | 0, t, _, _, hd, _, l => by rw [depthP_eq] at hd; split at hd <;> omega
  | m + 1, t, hf, hm, hd, hz, l => by
    have ih : ∀ x ∈ t.f4, ∀ l, nodeR m (bl (nodeB x) ++ l) = some (unname x, l) := by
      intro x hx
      have h1 := depth_kid t hm x hx
      have h2 : sizeN x ≤ 2000 := by
        rw [sizeN_eq] at hz
        have : ∀ (ks : List Tree), x ∈ ks → sizeN x ≤ sizeNs ks := by
          intro ks
          induction ks with
          | nil => intro h; cases h
          | cons y r ih =>
            intro h
            simp only [sizeNs]
            rcases List.mem_cons.1 h with rfl | h
            · omega
            · have := ih h; omega
        have := this t.f4 hx
        omega
      exact nodeR_enc m x (hf.kid x hx) ((mayP_kids t hm).2 x hx) (by omega) h2
    have hz2 : t.f4.length ≤ 2000 := by
      rw [sizeN_eq] at hz
      have := sizeNs_len t.f4
      omega
    have hnm : ∀ x ∈ t.f4, x.f0.size < 18446744073709551616 := fun x hx => by have := (hf.kid x hx).name; omega
    have hdt := hf.data
    clear hf hd hz
    obtain ⟨nm, kd, ex, dt, ks⟩ := t
    dsimp only at *
    show nodeH (some (nodeR m)) _ = _
    unfold nodeH
    simp only [nodeB]
    by_cases k1 : kd = 1
    · subst k1
      have hn : ks = [] := by simpa [mayP] using hm
      subst hn
      simp only [if_true, Int.reduceToNat]
      rw [bl_append, List.append_assoc, numR_enc _ (by decide)]
      simp only [Option.bind_some, if_true]
      rw [bl_append, List.append_assoc, numR_enc _ (by cases ex <;> decide)]
      simp only [Option.bind_some]
      rw [if_pos (by cases ex <;> decide), textR_enc _ (by omega)]
      simp only [Option.bind_some, str_bl, unname]
      cases ex <;> rfl
    by_cases k2 : kd = 2
    · subst k2
      obtain ⟨⟨hx, hdz⟩, hmk⟩ : (ex = false ∧ dt.data.toList = []) ∧ mayKids none ks = true := by simpa [mayP] using hm
      subst hx
      have hdz2 : dt = ⟨#[]⟩ := by
        obtain ⟨⟨d⟩⟩ := dt
        simp at hdz
        subst hdz
        rfl
      subst hdz2
      simp only [Int.reduceEq, if_false, Int.reduceToNat]
      rw [bl_append, List.append_assoc, numR_enc _ (by decide)]
      simp only [Option.bind_some, Nat.reduceEqDiff, if_false, if_true]
      unfold dirH
      rw [bl_append, List.append_assoc, numR_enc _ (by omega)]
      simp only [Option.bind_some]
      rw [if_pos hz2, kidsR_enc ks l hnm ih]
      simp only [Option.bind_some, unname]
    by_cases k3 : kd = 3
    · subst k3
      have hx : ex = false ∧ ks = [] := by simp [mayP] at hm; exact ⟨hm.1.1.1.2, hm.1.1.1.1⟩
      obtain ⟨rfl, rfl⟩ := hx
      simp only [Int.reduceEq, if_false, if_true, Int.reduceToNat]
      rw [bl_append, List.append_assoc, numR_enc _ (by decide)]
      simp only [Option.bind_some, Nat.reduceEqDiff, if_false, if_true]
      rw [textR_enc _ (by omega)]
      simp only [Option.bind_some, str_bl, unname]
    simp [mayP, k1, k2, k3] at hm
end Go.Proofs.Ytnnpfahlfmeakaa

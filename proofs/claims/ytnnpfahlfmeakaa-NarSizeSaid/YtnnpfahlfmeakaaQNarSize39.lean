import Derived.Test.YtnnpfahlfmeakaaQNarSize21
import Derived.Test.YtnnpfahlfmeakaaQNarSize23
import Derived.Test.YtnnpfahlfmeakaaQNarSize35
import Derived.Test.YtnnpfahlfmeakaaQNarSize38
namespace Go.Proofs.Ytnnpfahlfmeakaa
open Go.RowKit Go.Proofs.Ytnnpfahlfmeakaa.PB Go.Proofs.YtnnpfahlfmeakaaW.PrintWords Go.Proofs.YtnnpfahlfmeakaaW.PrintLast
set_option linter.unusedVariables false
set_option linter.unusedSimpArgs false
mutual
def namesP : Tree → Nat
  | ⟨_, _, _, _, ks⟩ => namesK ks
def namesK : List Tree → Nat
  | [] => 0
  | k :: r => k.f0.size + namesP k + namesK r
end
theorem namesP_eq (t : Tree) : namesP t = namesK t.f4 := by cases t; simp only [namesP]
/-- Where the last name begins. -/
def lastAt (l : List UInt8) : Nat → Nat
  | 0 => 0
  | a + 1 => if l.getD a 0 = 47 then a + 1 else lastAt l a
def lastLen (s : ByteArray) : Nat := s.size - lastAt (bl s) s.size
theorem lastAt_le (l : List UInt8) : ∀ a, lastAt l a ≤ a
  | 0 => Nat.le_refl _
  | a + 1 => by unfold lastAt; split; exact Nat.le_refl _; exact Nat.le_succ_of_le (lastAt_le l a)
theorem lastAt_pre (pre nm : List UInt8) (hn : ∀ c ∈ nm, c ≠ 47) (hp : pre = [] ∨ pre.getD (pre.length - 1) 0 = 47) : ∀ d, d ≤ nm.length → lastAt (pre ++ nm) (pre.length + d) = pre.length
  | 0, _ => by
    rcases hp with rfl | hp
    · rfl
    · cases hl : pre.length with
      | zero => rfl
      | succ m =>
        have h1 : (pre ++ nm).getD m 0 = 47 := by
          rw [hl] at hp
          rw [List.getD_eq_getElem?_getD, List.getElem?_append_left (by omega), ← List.getD_eq_getElem?_getD]
          exact hp
        show lastAt (pre ++ nm) (m + 1) = m + 1
        unfold lastAt
        rw [if_pos h1]
  | d + 1, hd => by
    have h1 : (pre ++ nm).getD (pre.length + d) 0 ≠ 47 := by
      rw [List.getD_eq_getElem?_getD, List.getElem?_append_right (by omega), Nat.add_sub_cancel_left, List.getElem?_eq_getElem (by omega)]
      exact hn _ (List.getElem_mem _)
    show lastAt (pre ++ nm) (pre.length + d + 1) = _
    unfold lastAt
    rw [if_neg h1]
    exact lastAt_pre pre nm hn hp d (by omega)
theorem name_bytes (s : ByteArray) (h : nameOk s = true) : (∀ c ∈ bl s, c ≠ 47) ∧ 1 ≤ s.size ∧ s.size ≤ 56 := by
  simp only [nameOk, Bool.and_eq_true, decide_eq_true_eq] at h
  refine ⟨fun c hc => ?_, h.1.1.1.2, h.1.1.2⟩
  have := List.all_eq_true.1 h.1.1.1.1 c hc
  simp only [nmByte, Bool.and_eq_true, bne_iff_ne] at this
  exact this.1
theorem lastLen_name (s : ByteArray) (h : nameOk s = true) : lastLen s = s.size := by
  have := lastAt_pre [] (bl s) (name_bytes s h).1 (.inl rfl) (bl s).length (Nat.le_refl _)
  unfold lastLen
  rw [bl_length] at this
  simp only [List.nil_append, List.length_nil, Nat.zero_add] at this
  rw [this]; omega
theorem lastLen_join (p s : ByteArray) (h : nameOk s = true) : lastLen (p ++ ⟨#[47]⟩ ++ s) = s.size := by
  have e : bl (p ++ ⟨#[47]⟩ ++ s) = (bl p ++ [47]) ++ bl s := by rw [bl_append, bl_append]; rfl
  have h2 := lastAt_pre (bl p ++ [47]) (bl s) (name_bytes s h).1 (.inr (by simp)) (bl s).length (Nat.le_refl _)
  have e2 : (p ++ ⟨#[47]⟩ ++ s).size = (bl p ++ [47]).length + (bl s).length := by
    rw [ByteArray.size_append, ByteArray.size_append, List.length_append]; rfl
  unfold lastLen
  rw [e, e2, h2, bl_length]; omega
def sumL (l : List ByteArray) : Nat := (l.map lastLen).sum
theorem sumL_append (a b : List ByteArray) : sumL (a ++ b) = sumL a + sumL b := by simp [sumL]
theorem sumL_cons (a : ByteArray) (b : List ByteArray) : sumL (a :: b) = lastLen a + sumL b := by simp [sumL]
theorem may_kid_name : ∀ (o : Option ByteArray) (ks : List Tree), mayKids o ks = true → ∀ k ∈ ks, nameOk k.f0 = true
  | _, [], _, _, h => by cases h
  | o, x :: r, h, k, hk => by
    simp only [mayKids, Bool.and_eq_true] at h
    rcases List.mem_cons.1 hk with rfl | hk
    · exact h.1.1.1
    · exact may_kid_name _ r h.2 k hk
theorem may_names (t : Tree) (h : mayP t = true) : ∀ k ∈ t.f4, nameOk k.f0 = true := by
  obtain ⟨nm, kd, ex, dt, ks⟩ := t
  by_cases k1 : kd = 1
  · subst k1
    have hn : ks = [] := by simpa [mayP] using h
    subst hn; intro k hk; cases hk
  by_cases k2 : kd = 2
  · subst k2
    have hn : mayKids none ks = true := by simp [mayP] at h; exact h.2
    exact may_kid_name _ _ hn
  by_cases k3 : kd = 3
  · subst k3
    have hn : ks = [] := by simp [mayP] at h; exact h.1.1.1.1
    subst hn; intro k hk; cases hk
  simp [mayP, k1, k2, k3] at h
/-- The paths' last names; how many they are. -/
theorem paths_sum (t : Tree) (hf : Fit t) : mayP t = true → ∀ p, sumL (pathsP t p) = lastLen p + namesP t ∧ (pathsP t p).length = sizeN t := by
  induction hf with
  | mk t h0 h1 h3 h4 hk ih =>
    intro hm p
    have hkm := mayP_kids t hm
    have hkn := may_names t hm
    have key : ∀ (ks : List Tree), (∀ k ∈ ks, k ∈ t.f4) → sumL (pathsK ks p) = namesK ks ∧ (pathsK ks p).length = sizeNs ks := by
      intro ks
      induction ks with
      | nil => intro _; exact ⟨rfl, rfl⟩
      | cons k r ihr =>
        intro hs
        obtain ⟨a1, a2⟩ := ihr (fun x hx => hs x (by simp [hx]))
        have hmem := hs k (by simp)
        obtain ⟨b1, b2⟩ := ih k hmem (hkm.2 k hmem) (p ++ ⟨#[47]⟩ ++ k.f0)
        simp only [pathsK, namesK, sizeNs, sumL_append, List.length_append, a1, a2, b1, b2]
        rw [lastLen_join p k.f0 (hkn k hmem)]
        exact ⟨by omega, trivial⟩
    rw [pathsP_eq, namesP_eq, sizeN_eq]
    by_cases h2 : t.f1 = 2
    · rw [if_pos h2, sumL_cons, List.length_cons, (key t.f4 (fun k hk => hk)).1, (key t.f4 (fun k hk => hk)).2]
      exact ⟨rfl, by omega⟩
    · have hnil : t.f4 = [] := hkm.1.resolve_right h2
      rw [if_neg h2, hnil]
      exact ⟨by simp [sumL, namesK], by simp [sizeNs]⟩
theorem each_sum (t : Tree) (hf : Fit t) (hm : mayP t = true) (hd : depthP t ≤ 12) : sumL (eachP t) = namesP t ∧ (eachP t).length + 1 = sizeN t := by
  have hkm := mayP_kids t hm
  have hkn := may_names t hm
  rw [namesP_eq, sizeN_eq]
  by_cases h2 : t.f1 = 2
  · have e : eachP t = t.f4.flatMap (fun k => pathsP k k.f0) := by
      unfold eachP
      rw [if_neg (by rintro (h | h); omega; exact h h2)]
      have : ∀ ks : List Tree, eachK ks ks.length = ks.flatMap (fun k => pathsP k k.f0) := by
        intro ks
        unfold eachK
        induction ks with
        | nil => rfl
        | cons k r ih =>
          rw [List.length_cons, List.range_succ_eq_map, List.flatMap_cons, List.flatMap_map, List.flatMap_cons, ← ih]
          rfl
      exact this t.f4
    rw [e]
    have key : ∀ (ks : List Tree), (∀ k ∈ ks, k ∈ t.f4) → sumL (ks.flatMap (fun k => pathsP k k.f0)) = namesK ks ∧ (ks.flatMap (fun k => pathsP k k.f0)).length = sizeNs ks := by
      intro ks
      induction ks with
      | nil => intro _; exact ⟨rfl, rfl⟩
      | cons k r ihr =>
        intro hs
        obtain ⟨a1, a2⟩ := ihr (fun x hx => hs x (by simp [hx]))
        have hmem := hs k (by simp)
        obtain ⟨b1, b2⟩ := paths_sum k (hf.kid k hmem) (hkm.2 k hmem) k.f0
        rw [List.flatMap_cons, sumL_append, List.length_append, a1, a2, b1, b2]
        simp only [namesK, sizeNs]
        rw [lastLen_name k.f0 (hkn k hmem)]
        exact ⟨by omega, trivial⟩
    obtain ⟨k1, k2⟩ := key t.f4 (fun k hk => hk)
    exact ⟨k1, by omega⟩
  · have hnil : t.f4 = [] := hkm.1.resolve_right h2
    have e : eachP t = [] := by unfold eachP; rw [if_pos (.inr h2)]
    rw [e, hnil]
    exact ⟨by simp [sumL, namesK], by simp [sizeNs]⟩
theorem nd_small (n k : Nat) (h : n < 128 ^ (k + 1)) : nd n ≤ k := by
  rcases Nat.lt_or_ge k (nd n) with h1 | h1
  · exact absurd (Nat.div_eq_of_lt h) (nd_pos n k h1)
  · exact h1
/-- A tree's bytes: no fewer, no more. -/
theorem nodeB_both (t : Tree) (hf : Fit t) : mayP t = true → sizeN t ≤ 2000 → sizeB t ≤ 100000 → sizeN t + sizeB t + namesP t ≤ (nodeB t).size ∧ (nodeB t).size + 1 ≤ sizeB t + namesP t + 8 * sizeN t := by
  induction hf with
  | mk t h0 h1 h3 h4 hk ih =>
    intro hm hz hb
    have hkm := mayP_kids t hm
    have hkn := may_names t hm
    rw [sizeN_eq] at hz
    rw [sizeB_eq] at hb
    have key : ∀ (ks : List Tree), (∀ k ∈ ks, k ∈ t.f4) → sizeNs ks ≤ 2000 → sizeBs ks ≤ 100000 → sizeNs ks + sizeBs ks + namesK ks ≤ (kidsB ks).size ∧ (kidsB ks).size ≤ sizeBs ks + namesK ks + 8 * sizeNs ks := by
      intro ks
      induction ks with
      | nil => intro _ _ _; simp [kidsB, sizeNs, sizeBs, namesK]
      | cons k r ihr =>
        intro hs hz hb
        simp only [sizeNs, sizeBs] at hz hb
        obtain ⟨a1, a2⟩ := ihr (fun x hx => hs x (by simp [hx])) (by omega) (by omega)
        have hmem := hs k (by simp)
        obtain ⟨b1, b2⟩ := ih k hmem (hkm.2 k hmem) (by omega) (by omega)
        obtain ⟨-, c1, c2⟩ := name_bytes k.f0 (hkn k hmem)
        have d1 := encNum_size k.f0.size
        have d2 := nd_small k.f0.size 0 (by omega)
        simp only [kidsB, sizeNs, sizeBs, namesK, ByteArray.size_append]
        omega
    obtain ⟨k1, k2⟩ := key t.f4 (fun k hk => hk) (by omega) (by omega)
    have hkind : t.f1 = 1 ∨ t.f1 = 2 ∨ t.f1 = 3 := by
      obtain ⟨nm, kd, ex, dt, ks⟩ := t
      by_cases k1 : kd = 1
      · exact .inl k1
      by_cases k2 : kd = 2
      · exact .inr (.inl k2)
      by_cases k3 : kd = 3
      · exact .inr (.inr k3)
      simp [mayP, k1, k2, k3] at hm
    have e1 := encNum_size t.f3.size
    have e2 := nd_small t.f3.size 2 (by omega)
    have e3 := encNum_size t.f4.length
    have e4 := nd_small t.f4.length 1 (by have := sizeNs_len t.f4; omega)
    have hx : (encNum (if t.f2 = true then 1 else 0)).size = 1 := by
      rw [encNum_size, Nat.le_zero.1 (nd_small (if t.f2 = true then 1 else 0) 0 (by split <;> decide))]
    have hE : nodeB t = encNum t.f1.toNat ++ (if t.f1 = 1 then encNum (if t.f2 then 1 else 0) ++ (encNum t.f3.size ++ t.f3) else if t.f1 = 3 then encNum t.f3.size ++ t.f3 else encNum t.f4.length ++ kidsB t.f4) := by cases t; simp only [nodeB]
    rw [hE, sizeN_eq, sizeB_eq, namesP_eq]
    rcases hkind with e | e | e
    · have hnil : t.f4 = [] := hkm.1.resolve_right (by rw [e]; decide)
      have hk1 : (encNum 1).size = 1 := by rw [encNum_size, Nat.le_zero.1 (nd_small 1 0 (by decide))]
      rw [e, hnil]
      simp only [if_true, Int.reduceToNat, ByteArray.size_append, sizeNs, sizeBs, namesK]
      omega
    · have hk1 : (encNum 2).size = 1 := by rw [encNum_size, Nat.le_zero.1 (nd_small 2 0 (by decide))]
      have hdt : t.f3.size = 0 := by
        obtain ⟨nm, kd, ex, dt, ks⟩ := t
        simp only at e
        subst e
        obtain ⟨⟨hx, hdz⟩, hmk⟩ : (ex = false ∧ dt.data.toList = []) ∧ mayKids none ks = true := by simpa [mayP] using hm
        show dt.data.size = 0
        rw [← Array.length_toList, hdz]; rfl
      rw [e]
      simp only [Int.reduceEq, if_false, Int.reduceToNat, ByteArray.size_append]
      omega
    · have hnil : t.f4 = [] := hkm.1.resolve_right (by rw [e]; decide)
      have hk1 : (encNum 3).size = 1 := by rw [encNum_size, Nat.le_zero.1 (nd_small 3 0 (by decide))]
      rw [e, hnil]
      simp only [Int.reduceEq, if_false, if_true, Int.reduceToNat, ByteArray.size_append, sizeNs, sizeBs, namesK]
      omega
end Go.Proofs.Ytnnpfahlfmeakaa

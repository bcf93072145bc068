import Derived.Test.YtnnpfahlfmeakaaQNarLays7
import Derived.Test.YtnnpfahlfmeakaaQNarLays8
import Derived.Test.YtnnpfahlfmeakaaQNarLays24
namespace Go.Proofs.Ytnnpfahlfmeakaa
open Go.RowKit Go.Proofs.Ytnnpfahlfmeakaa.PB Go.Proofs.YtnnpfahlfmeakaaW.PrintWords Go.Proofs.YtnnpfahlfmeakaaW.PrintLast
set_option linter.unusedVariables false
set_option linter.unusedSimpArgs false
def shortP : Nat → Tree → Tree
  | 0, t => ⟨t.f0, t.f1, t.f2, t.f3.extract 0 (min t.f3.size 300), []⟩
  | d + 1, t => ⟨t.f0, t.f1, t.f2, t.f3.extract 0 (min t.f3.size 300), (t.f4.take 20).map (shortP d)⟩
theorem cut_size (s : ByteArray) : (s.extract 0 (min s.size 300)).size = min s.size 300 := by
  rw [ByteArray.size_extract]; omega
theorem shortP_data (d : Nat) (t : Tree) : (shortP d t).f3.size ≤ 300 := by
  cases d <;> (show (t.f3.extract 0 (min t.f3.size 300)).size ≤ 300; rw [cut_size]; omega)
theorem shortP_fit : ∀ (d : Nat) (t : Tree), Fit t → Fit (shortP d t)
  | 0, t, h => Fit.mk _ h.name h.kind (by have := shortP_data 0 t; omega) (by show ([] : List Tree).length ≤ _; simp) (fun k hk => by cases hk)
  | d + 1, t, h => Fit.mk _ h.name h.kind (by have := shortP_data (d + 1) t; omega) (by show ((t.f4.take 20).map (shortP d)).length ≤ _; simp; omega) (fun k hk => by
      obtain ⟨x, hx, rfl⟩ := List.mem_map.1 hk
      exact shortP_fit d x (h.kid x (List.mem_of_mem_take hx)))
theorem sizes_le (B : Nat) : ∀ (ks : List Tree), (∀ x ∈ ks, sizeN x + sizeB x ≤ B) → sizeNs ks + sizeBs ks ≤ ks.length * B
  | [], _ => by simp [sizeNs, sizeBs]
  | k :: r, h => by
    have h1 := h k (by simp)
    have h2 := sizes_le B r (fun x hx => h x (by simp [hx]))
    simp only [sizeNs, sizeBs, List.length_cons, Nat.succ_mul]
    omega
theorem depthP_pos (t : Tree) : 1 ≤ depthP t := by
  rw [depthP_eq]; split <;> omega
theorem shortP_size : ∀ (m d : Nat) (t : Tree), mayP (shortP d t) = true → depthP (shortP d t) ≤ m → sizeN (shortP d t) + sizeB (shortP d t) ≤ 301 * 21 ^ m
  | 0, d, t, _, h => by have := depthP_pos (shortP d t); omega
  | m + 1, 0, t, hm, h => by
    have h1 := shortP_data 0 t
    have e : (shortP 0 t).f4 = [] := rfl
    have hp : 1 ≤ 21 ^ (m + 1) := Nat.pow_pos (by decide)
    rw [sizeN_eq, sizeB_eq, e]
    simp only [sizeNs, sizeBs]
    omega
  | m + 1, d + 1, t, hm, h => by
    have h1 := shortP_data (d + 1) t
    have hk : ∀ x ∈ (shortP (d + 1) t).f4, sizeN x + sizeB x ≤ 301 * 21 ^ m := by
      intro x hx
      have h2 := depth_kid _ hm x hx
      have h3 := (mayP_kids _ hm).2 x hx
      obtain ⟨y, hy, rfl⟩ := List.mem_map.1 (show x ∈ (t.f4.take 20).map (shortP d) from hx)
      exact shortP_size m d y h3 (by omega)
    have h4 := sizes_le _ _ hk
    have h5 : (shortP (d + 1) t).f4.length ≤ 20 := by show ((t.f4.take 20).map (shortP d)).length ≤ 20; simp; omega
    have h6 : (shortP (d + 1) t).f4.length * (301 * 21 ^ m) ≤ 20 * (301 * 21 ^ m) := Nat.mul_le_mul_right _ h5
    have hp : 1 ≤ 21 ^ m := Nat.pow_pos (by decide)
    rw [sizeN_eq, sizeB_eq, Nat.pow_succ]
    omega
theorem shortP_sized (d : Nat) (t : Tree) : Sized (shortP d t) := by
  intro hd hm
  have h := shortP_size 12 d t hm hd
  have : 301 * 21 ^ 12 < 4611686018427387904 := by decide
  omega
theorem short_loop (d : Nat) (hd : d ≤ 14) (t : Tree) (hl : t.f4.length ≤ 1954687338212) (dt : ByteArray)
    (ih : ∀ x ∈ t.f4, Ev (fun k => whisklaw09_short.f k x.f0 x.f1 x.f2 x.f3 x.f4 (d : Int)) ((shortP d x).f0, (shortP d x).f1, (shortP d x).f2, (shortP d x).f3, (shortP d x).f4)) :
    ∀ (n i : Nat) (acc : List Tree), 20 - i = n → i ≤ 20 → acc.length ≤ i → Ev (fun k => whisklaw09_short.l0 k ((d + 1 : Nat) : Int) acc (i : Int) t.f0 t.f1 t.f2 dt t.f4) (t.f0, t.f1, t.f2, dt, acc ++ ((t.f4.take 20).drop i).map (shortP d))
  | 0, i, acc, hn, hi, ha => by
    refine Ev.succ ((Ev.const _).congr (fun k => ?_) rfl)
    simp only [whisklaw09_short.l0]
    rw [List.drop_of_length_le (by simp; omega)]
    by_cases h1 : (i : Int) < (t.f4.length : Int)
    · rw [if_pos h1, if_neg (by omega)]; simp
    · rw [if_neg h1]; simp
  | n + 1, i, acc, hn, hi, ha => by
    by_cases h1 : i < t.f4.length
    · have h2 : i < (t.f4.take 20).length := by simp; omega
      have e1 : ((t.f4.take 20).drop i).map (shortP d) = shortP d t.f4[i] :: ((t.f4.take 20).drop (i + 1)).map (shortP d) := by
        rw [List.drop_eq_getElem_cons h2, List.map_cons, List.getElem_take]
      refine Ev.succ (Ev.congr ((ih t.f4[i] (List.getElem_mem h1)).bind (g := fun k bt => whisklaw09_short.l0 k ((d + 1 : Nat) : Int) (acc ++ [(⟨bt.1, bt.2.1, bt.2.2.1, bt.2.2.2.1, bt.2.2.2.2⟩ : Tree)]) ((i + 1 : Nat) : Int) t.f0 t.f1 t.f2 dt t.f4) ((short_loop d hd t hl dt ih n (i + 1) (acc ++ [shortP d t.f4[i]]) (by omega) (by omega) (by simp; omega)).congr (fun k => by generalize shortP d t.f4[i] = q; cases q; rfl) rfl)) (fun k => ?_) ?_)
      · simp only [whisklaw09_short.l0]
        rw [if_pos (by omega), if_pos (by omega), if_pos (by omega), if_pos (by omega), rd_at t.f4 i h1, wrap64_id ((d + 1 : Nat) - 1 : Int) (by omega) (by omega), wrap64_id ((i : Int) + 1) (by omega) (by omega), show (((d + 1 : Nat) : Int) - 1) = (d : Int) by omega]
        simp only [show acc.length < 1954687338268 by omega, if_true]
        rfl
      · rw [e1]; simp
    · refine Ev.succ ((Ev.const _).congr (fun k => ?_) rfl)
      simp only [whisklaw09_short.l0]
      rw [if_neg (by omega), List.drop_of_length_le (by simp; omega)]
      simp
theorem mn_cut (n : Nat) : mn (n : Int) 300 = ((min n 300 : Nat) : Int) := by
  unfold mn; split <;> omega
theorem short_ev : ∀ (d : Nat) (t : Tree), d ≤ 14 → Fit t → Ev (fun k => whisklaw09_short.f k t.f0 t.f1 t.f2 t.f3 t.f4 (d : Int)) ((shortP d t).f0, (shortP d t).f1, (shortP d t).f2, (shortP d t).f3, (shortP d t).f4)
  | 0, t, hd, hf => by
    refine Ev.succ (Ev.succ ((Ev.const _).congr (fun k => ?_) rfl))
    simp only [whisklaw09_short.f, mn_cut]
    rw [if_pos (by omega), if_pos (by omega)]
    simp only [whisklaw09_short.l0]
    by_cases h1 : (0 : Int) < (t.f4.length : Int)
    · rw [if_pos h1, if_pos (by decide), if_neg (by decide)]; rfl
    · rw [if_neg h1]; rfl
  | d + 1, t, hd, hf => by
    refine Ev.succ (Ev.congr (short_loop d (by omega) t hf.kids (t.f3.extract 0 (min t.f3.size 300)) (fun x hx => short_ev d x (by omega) (hf.kid x hx)) 20 0 [] (by omega) (by omega) (by simp)) (fun k => ?_) ?_)
    · simp only [whisklaw09_short.f, mn_cut]
      rw [if_pos (by omega), if_pos (by omega)]
      rfl
    · rfl
end Go.Proofs.Ytnnpfahlfmeakaa
namespace Go.Proofs.Ytnnpfahlfmeakaa
open Go.RowKit Go.Proofs.Ytnnpfahlfmeakaa.PB Go.Proofs.YtnnpfahlfmeakaaW.PrintWords Go.Proofs.YtnnpfahlfmeakaaW.PrintLast Go.Proofs.YtnnpfahlfmeakaaW.PrintMore
set_option linter.unusedVariables false
set_option linter.unusedSimpArgs false
theorem refDeep_loop (m : Nat) (hm : m ≤ 14) (hm1 : 2 ≤ m) (t : Tree) (hl : t.f4.length ≤ 1954687338212) (ih : ∀ x ∈ t.f4, Ev (fun k => whiskref06_deep.f k x.f0 x.f1 x.f2 x.f3 x.f4 ((m - 1 : Nat) : Int)) ((deepP (m - 1) x : Nat) : Int)) :
    ∀ (n j d : Nat), t.f4.length - j = n → j ≤ t.f4.length → Ev (fun k => whiskref06_deep.l0 k m d j t.f0 t.f1 t.f2 t.f3 t.f4) ((deepK (m - 1) d (t.f4.drop j) : Nat) : Int)
  | 0, j, d, hn, hj => by
    refine Ev.succ ((Ev.const _).congr (fun k => ?_) rfl)
    simp only [whiskref06_deep.l0]
    rw [if_neg (by omega), List.drop_of_length_le (by omega)]
    rfl
  | n + 1, j, d, hn, hj => by
    have hlt : j < t.f4.length := by omega
    refine Ev.succ (Ev.congr ((ih t.f4[j] (List.getElem_mem hlt)).bind (g := fun k r => whiskref06_deep.l0 k m (mx d (wrap64 (1 + r))) ((j + 1 : Nat) : Int) t.f0 t.f1 t.f2 t.f3 t.f4) ?_) (fun k => ?_) rfl)
    · have hd := deepP_le (m - 1) t.f4[j] (by omega)
      rw [List.drop_eq_getElem_cons hlt]
      rw [wrap64_id _ (by omega) (by omega), show (1 + ((deepP (m - 1) t.f4[j] : Nat) : Int)) = ((1 + deepP (m - 1) t.f4[j] : Nat) : Int) by omega, mx_nat]
      exact refDeep_loop m hm hm1 t hl ih n (j + 1) _ (by omega) (by omega)
    · simp only [whiskref06_deep.l0]
      rw [if_pos (by omega), if_pos (by omega), rd_at t.f4 j hlt, wrap64_id ((m : Int) - 1) (by omega) (by omega), wrap64_id ((j : Int) + 1) (by omega) (by omega), show ((m : Int) - 1) = ((m - 1 : Nat) : Int) by omega]
      rfl
theorem refDeep_ev : ∀ (m : Nat) (t : Tree), Fit t → 1 ≤ m → m ≤ 14 → Ev (fun k => whiskref06_deep.f k t.f0 t.f1 t.f2 t.f3 t.f4 m) ((deepP m t : Nat) : Int)
  | 0, t, _, h, _ => by omega
  | 1, t, _, _, _ => by
    refine Ev.succ (Ev.congr (f := fun k => whiskref06_deep.j0 k 1 true t.f0 t.f1 t.f2 t.f3 t.f4) (v := 1) (Ev.succ ((Ev.const 1).congr (fun k => by simp [whiskref06_deep.j0]) rfl)) (fun k => ?_) (by simp [deepP]))
    simp [whiskref06_deep.f]
  | m + 2, t, hf, _, hm => by
    by_cases hk : t.f1 = 2
    · have e : deepP (m + 2) t = deepK (m + 1) 1 t.f4 := by simp only [deepP]; rw [if_pos ⟨hk, by omega⟩]; rfl
      rw [e]
      have h0 := refDeep_loop (m + 2) hm (by omega) t hf.kids (fun x hx => refDeep_ev (m + 1) x (hf.kid x hx) (by omega) (by omega)) t.f4.length 0 1 (by omega) (by omega)
      refine Ev.succ (Ev.congr (f := fun k => whiskref06_deep.j0 k ((m + 2 : Nat) : Int) false t.f0 t.f1 t.f2 t.f3 t.f4) (Ev.succ (h0.congr (fun k => ?_) rfl)) (fun k => ?_) rfl)
      · simp [whiskref06_deep.j0]
      · simp only [whiskref06_deep.f]
        rw [if_pos hk, show (((m + 2 : Nat) : Int) == 1) = false from beq_eq_false_iff_ne.mpr (by omega)]
    · have e : deepP (m + 2) t = 1 := by simp only [deepP]; rw [if_neg (by simp [hk])]
      rw [e]
      refine Ev.succ (Ev.congr (f := fun k => whiskref06_deep.j0 k ((m + 2 : Nat) : Int) true t.f0 t.f1 t.f2 t.f3 t.f4) (v := 1) (Ev.succ ((Ev.const 1).congr (fun k => by simp [whiskref06_deep.j0]) rfl)) (fun k => ?_) rfl)
      simp only [whiskref06_deep.f]
      rw [if_neg hk]
theorem refDeep_all (t : Tree) (hf : Fit t) : Ev (fun k => whiskref06_Deep.f k t.f0 t.f1 t.f2 t.f3 t.f4) ((min 14 (depthP t) : Nat) : Int) := by
  refine Ev.congr ((refDeep_ev 14 t hf (by omega) (by omega)).bind (g := fun k r => some r) (Ev.const _)) (fun k => rfl) ?_
  rw [deepP_depth 14 t (by omega)]
theorem refSize_loop (t : Tree) (hl : t.f4.length ≤ 1954687338212)
    (ih : ∀ x ∈ t.f4, Ev (fun k => whiskref06_Size.f k x.f0 x.f1 x.f2 x.f3 x.f4) (((sizeN x : Nat) : Int), ((sizeB x : Nat) : Int))) :
    ∀ (n j a b : Nat), t.f4.length - j = n → j ≤ t.f4.length → a + b + (sizeNs (t.f4.drop j) + sizeBs (t.f4.drop j)) < 4611686018427387904 → Ev (fun k => whiskref06_Size.l0 k a b j t.f0 t.f1 t.f2 t.f3 t.f4) (((a + sizeNs (t.f4.drop j) : Nat) : Int), ((b + sizeBs (t.f4.drop j) : Nat) : Int))
  | 0, j, a, b, hn, hj, hz => by
    refine Ev.succ ((Ev.const _).congr (fun k => ?_) rfl)
    simp only [whiskref06_Size.l0]
    rw [if_neg (by omega), List.drop_of_length_le (by omega)]
    rfl
  | n + 1, j, a, b, hn, hj, hz => by
    have hlt : j < t.f4.length := by omega
    have hmem := List.getElem_mem hlt
    obtain ⟨e1, e2⟩ := sizeNs_drop t.f4 j hlt
    rw [e1, e2] at hz
    have hz' : (a + sizeN t.f4[j]) + (b + sizeB t.f4[j]) + (sizeNs (t.f4.drop (j + 1)) + sizeBs (t.f4.drop (j + 1))) < 4611686018427387904 := by omega
    have h0 := refSize_loop t hl ih n (j + 1) (a + sizeN t.f4[j]) (b + sizeB t.f4[j]) (by omega) (by omega) hz'
    have h1 := (ih t.f4[j] hmem).bind (g := fun k (bt : Int × Int) => whiskref06_Size.l0 k (wrap64 (a + bt.1)) (wrap64 (b + bt.2)) ((j + 1 : Nat) : Int) t.f0 t.f1 t.f2 t.f3 t.f4) (h0.congr (fun k => by
      show whiskref06_Size.l0 k (wrap64 ((a : Int) + ((sizeN t.f4[j] : Nat) : Int))) (wrap64 ((b : Int) + ((sizeB t.f4[j] : Nat) : Int))) ((j + 1 : Nat) : Int) t.f0 t.f1 t.f2 t.f3 t.f4 = _
      rw [wrap64_id _ (by omega) (by omega), wrap64_id _ (by omega) (by omega), ← Int.natCast_add, ← Int.natCast_add]) rfl)
    refine Ev.succ (Ev.congr h1 (fun k => ?_) ?_)
    · simp only [whiskref06_Size.l0]
      rw [if_pos (by omega), if_pos (by omega), rd_at t.f4 j hlt, wrap64_id ((j : Int) + 1) (by omega) (by omega)]
      rfl
    · rw [e1, e2]
      simp only [Prod.mk.injEq]
      exact ⟨by omega, by omega⟩
theorem refSize_ev (t : Tree) (hf : Fit t) : mayP t = true → depthP t ≤ 12 → sizeN t + sizeB t < 4611686018427387904 → Ev (fun k => whiskref06_Size.f k t.f0 t.f1 t.f2 t.f3 t.f4) (((sizeN t : Nat) : Int), ((sizeB t : Nat) : Int)) := by
  induction hf with
  | mk t h0 h1 h3 h4 hk ih =>
    intro hm hd hz
    have hz2 : sizeNs t.f4 + sizeBs t.f4 < 4611686018427387904 := by rw [sizeN_eq, sizeB_eq] at hz; omega
    have h := refSize_loop t h4 (fun x hx => ih x hx ((mayP_kids t hm).2 x hx) (by have := depth_kid t hm x hx; omega) (by have := sizeNs_mem t.f4 x hx; omega)) t.f4.length 0 1 t.f3.size (by omega) (by omega) (by rw [List.drop_zero]; rw [sizeN_eq, sizeB_eq] at hz; omega)
    refine Ev.succ (Ev.congr ((refDeep_all t (Fit.mk t h0 h1 h3 h4 hk)).bind (g := fun k t185 => if t185 > 12 then some (0, 0) else whiskref06_Size.l0 k 1 (t.f3.size : Int) 0 t.f0 t.f1 t.f2 t.f3 t.f4) (h.congr (fun k => ?_) rfl)) (fun k => ?_) ?_)
    · rw [if_neg (by omega)]; rfl
    · simp only [whiskref06_Size.f]
    · rw [List.drop_zero, sizeN_eq, sizeB_eq]
theorem refMay_f (t : Tree) (hf : Fit t) : whiskref06_may.f t.f0 t.f1 t.f2 t.f3 t.f4 = some (mayP t) := by
  cases t; exact if_pos hf
theorem refCheck_ev (t : Tree) (hf : Fit t) (hz : Sized t) : Ev (fun k => whiskref06_Check.f k t.f0 t.f1 t.f2 t.f3 t.f4) (checkP t) := by
  refine Ev.congr ((refDeep_all t hf).bind (g := fun k t190 => (if t190 > 12 then (some 3) else (if t.f0.toList = ([] : List UInt8) then ((whiskref06_may.f t.f0 t.f1 t.f2 t.f3 t.f4).bind fun t191 => (whiskref06_Check.j0 k (!t191) t.f0 t.f1 t.f2 t.f3 t.f4)) else (whiskref06_Check.j0 k true t.f0 t.f1 t.f2 t.f3 t.f4)))) ?_) (fun k => rfl) rfl
  by_cases hd : 12 < depthP t
  · refine (Ev.const 3).congr (fun k => ?_) ?_
    · rw [if_pos (by omega)]
    · rw [checkP, if_pos hd]
  by_cases hn : t.f0.data.toList = []
  · cases hm : mayP t with
    | false =>
      refine Ev.congr (f := fun k => whiskref06_Check.j0 k true t.f0 t.f1 t.f2 t.f3 t.f4) (v := 2) (Ev.succ ((Ev.const 2).congr (fun k => by simp [whiskref06_Check.j0]) rfl)) (fun k => ?_) ?_
      · rw [if_neg (by omega), if_pos (by rw [tl_eq]; exact hn), refMay_f t hf, hm]; rfl
      · rw [checkP, if_neg hd, if_neg (by simp [hm])]
    | true =>
      refine Ev.congr (f := fun k => whiskref06_Check.j0 k false t.f0 t.f1 t.f2 t.f3 t.f4) (Ev.succ (((refSize_ev t hf hm (by omega) (hz (by omega) hm)).bind (g := fun k (bt279 : Int × Int) => (if bt279.1 > 2000 then (some 3) else (if bt279.2 > 100000 then (some 3) else (some 0)))) (v := ((sizeN t : Int), (sizeB t : Int))) (u := if 2000 < sizeN t ∨ 100000 < sizeB t then 3 else 0) ?_).congr (fun k => ?_) rfl)) (fun k => ?_) ?_
      · refine (Ev.const _).congr (fun k => ?_) rfl
        by_cases h1 : 2000 < sizeN t
        · rw [if_pos (by show ((sizeN t : Nat) : Int) > 2000; omega), if_pos (Or.inl h1)]
        · rw [if_neg (by show ¬ ((sizeN t : Nat) : Int) > 2000; omega)]
          by_cases h2 : 100000 < sizeB t
          · rw [if_pos (by show ((sizeB t : Nat) : Int) > 100000; omega), if_pos (Or.inr h2)]
          · rw [if_neg (by show ¬ ((sizeB t : Nat) : Int) > 100000; omega), if_neg (by omega)]
      · simp only [whiskref06_Check.j0]; rfl
      · rw [if_neg (by omega), if_pos (by rw [tl_eq]; exact hn), refMay_f t hf, hm]; rfl
      · unfold checkP; rw [if_neg hd, if_pos (show t.f0.data.toList = [] ∧ mayP t = true from ⟨hn, hm⟩)]
  · refine Ev.congr (f := fun k => whiskref06_Check.j0 k true t.f0 t.f1 t.f2 t.f3 t.f4) (v := 2) (Ev.succ ((Ev.const 2).congr (fun k => by simp [whiskref06_Check.j0]) rfl)) (fun k => ?_) ?_
    · rw [if_neg (by omega), if_neg (by rw [tl_eq]; exact hn)]
    · rw [checkP, if_neg hd, if_neg (by simp [hn])]
end Go.Proofs.Ytnnpfahlfmeakaa
namespace Go.Proofs.Ytnnpfahlfmeakaa
open Go.Proofs.Ytnnpfahlfmeakaa.PB Go.Proofs.YtnnpfahlfmeakaaW.PrintWords
set_option linter.unusedVariables false
set_option linter.unusedSimpArgs false
theorem numR_len {l r : List UInt8} {n : Nat} (h : numR l = some (n, r)) : r.length + 1 ≤ l.length := by
  unfold numR at h
  split at h
  · cases h
  · rename_i h0
    injection h with h
    injection h with h1 h2
    have hle := rowFrom_le (l.headD 0).toNat 0 l
    subst h2
    rw [List.length_drop]
    have : l ≠ [] := by intro e; subst e; exact h0 rfl
    have : 0 < l.length := by cases l with | nil => contradiction | cons _ _ => simp
    unfold rowLen at h0 ⊢
    omega
theorem textR_len {l t r : List UInt8} (h : textR l = some (t, r)) : t.length + r.length + 1 ≤ l.length := by
  unfold textR at h
  cases hn : numR l with
  | none => rw [hn] at h; cases h
  | some p =>
    obtain ⟨n, q⟩ := p
    have := numR_len hn
    rw [hn] at h
    simp only at h
    split at h
    · injection h with h; injection h with h1 h2; subst h1; subst h2; simp; omega
    · split at h
      · injection h with h; injection h with h1 h2; subst h1; subst h2; simp; omega
      · cases h
theorem str_size (l : List UInt8) : (str l).size = l.length := by simp [str, ByteArray.size]
def FitF (f : List UInt8 → Option (Tree × List UInt8)) : Prop := ∀ l t r, l.length ≤ 140737488351232 → f l = some (t, r) → Fit t ∧ r.length + sizeN t + sizeB t ≤ l.length
theorem kidsR_fit {f : List UInt8 → Option (Tree × List UInt8)} (hf : FitF f) : ∀ (k : Nat) (l : List UInt8) (ks : List Tree) (r : List UInt8), l.length ≤ 140737488351232 → kidsR f k l = some (ks, r) → (∀ x ∈ ks, Fit x) ∧ ks.length = k ∧ r.length + sizeNs ks + sizeBs ks ≤ l.length
  | 0, l, ks, r, hl, h => by
    simp only [kidsR] at h
    injection h with h; injection h with h1 h2; subst h1; subst h2
    exact ⟨fun x hx => (by cases hx), rfl, by simp [sizeNs, sizeBs]⟩
  | k + 1, l, ks, r, hl, h => by
    rw [kidsR_succ] at h
    obtain ⟨⟨nm, l1⟩, ht, h⟩ := Option.bind_eq_some_iff.1 h
    obtain ⟨⟨t, l2⟩, hn, h⟩ := Option.bind_eq_some_iff.1 h
    obtain ⟨⟨ts, l3⟩, hk, h⟩ := Option.bind_eq_some_iff.1 h
    injection h with h; injection h with h1 h2; subst h1; subst h2
    have a1 := textR_len ht
    dsimp only at hn hk
    obtain ⟨a2, a3⟩ := hf l1 t l2 (by omega) hn
    obtain ⟨a4, a5, a6⟩ := kidsR_fit hf k l2 ts l3 (by omega) hk
    have e1 : sizeN ⟨str nm, t.f1, t.f2, t.f3, t.f4⟩ = sizeN t := by rw [sizeN_eq, sizeN_eq]
    have e2 : sizeB ⟨str nm, t.f1, t.f2, t.f3, t.f4⟩ = sizeB t := by rw [sizeB_eq, sizeB_eq]
    refine ⟨fun x hx => ?_, by simp [a5], by simp only [sizeNs, sizeBs, e1, e2]; omega⟩
    rcases List.mem_cons.1 hx with rfl | hx
    · exact Fit.mk _ (by show (str nm).size ≤ _; rw [str_size]; omega) a2.kind a2.data a2.kids a2.kid
    · exact a4 x hx
theorem nodeR_fit : ∀ (m : Nat), FitF (nodeR m) := by
  have key : ∀ (f : Option (List UInt8 → Option (Tree × List UInt8))), (∀ g, f = some g → FitF g) → FitF (nodeH f) := by
    intro f hf l t r hl h
    unfold nodeH at h
    obtain ⟨⟨kd, l1⟩, hn, h⟩ := Option.bind_eq_some_iff.1 h
    have a0 := numR_len hn
    dsimp only at h
    split at h
    · obtain ⟨⟨e, l2⟩, he, h⟩ := Option.bind_eq_some_iff.1 h
      have a1 := numR_len he
      dsimp only at h
      split at h
      · obtain ⟨⟨d, l3⟩, hd, h⟩ := Option.bind_eq_some_iff.1 h
        have a2 := textR_len hd
        injection h with h; injection h with h1 h2; subst h1; subst h2
        refine ⟨Fit.mk _ (Nat.zero_le 140737488351232) (by dsimp only; constructor <;> decide) (by show (str d).size ≤ _; rw [str_size]; omega) (by simp) (fun k hk => by cases hk), ?_⟩
        simp only [sizeN, sizeB, sizeNs, sizeBs, str_size]; omega
      · cases h
    · split at h
      · obtain ⟨⟨d, l3⟩, hd, h⟩ := Option.bind_eq_some_iff.1 h
        have a2 := textR_len hd
        injection h with h; injection h with h1 h2; subst h1; subst h2
        refine ⟨Fit.mk _ (Nat.zero_le 140737488351232) (by dsimp only; constructor <;> decide) (by show (str d).size ≤ _; rw [str_size]; omega) (by simp) (fun k hk => by cases hk), ?_⟩
        simp only [sizeN, sizeB, sizeNs, sizeBs, str_size]; omega
      · split at h
        · obtain ⟨⟨ks, l3⟩, hd, h⟩ := Option.bind_eq_some_iff.1 h
          injection h with h; injection h with h1 h2; subst h1; subst h2
          unfold dirH at hd
          obtain ⟨⟨k, l2⟩, hk, hd⟩ := Option.bind_eq_some_iff.1 hd
          have a1 := numR_len hk
          cases f with
          | none => cases hd
          | some g =>
            dsimp only at hd
            split at hd
            · obtain ⟨b1, b2, b3⟩ := kidsR_fit (hf g rfl) k l2 ks l3 (by omega) hd
              refine ⟨Fit.mk _ (Nat.zero_le 140737488351232) (by dsimp only; constructor <;> decide) (Nat.zero_le 140737488351232) (by show ks.length ≤ _; omega) b1, ?_⟩
              simp only [sizeN, sizeB]
              have : (⟨#[]⟩ : ByteArray).size = 0 := rfl
              omega
            · cases hd
        · cases h
  intro m
  induction m with
  | zero => exact key none (fun g hg => by cases hg)
  | succ m ih => exact key (some (nodeR m)) (fun g hg => by injection hg with hg; subst hg; exact ih)
end Go.Proofs.Ytnnpfahlfmeakaa

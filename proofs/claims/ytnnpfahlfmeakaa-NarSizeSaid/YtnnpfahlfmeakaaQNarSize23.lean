import Derived.Test.YtnnpfahlfmeakaaQNarSize7
import Derived.Test.YtnnpfahlfmeakaaQNarSize8
import Derived.Test.YtnnpfahlfmeakaaQNarSize9
import Derived.Test.YtnnpfahlfmeakaaQNarSize10
import Derived.Test.YtnnpfahlfmeakaaQNarSize19
import Derived.Test.YtnnpfahlfmeakaaQNarSize22
namespace Go.Proofs.Ytnnpfahlfmeakaa
open Go.RowKit Go.Proofs.Ytnnpfahlfmeakaa.PB Go.Proofs.YtnnpfahlfmeakaaW.PrintWords Go.Proofs.YtnnpfahlfmeakaaW.PrintLast Go.Proofs.YtnnpfahlfmeakaaW.PrintMore
set_option linter.unusedVariables false
set_option linter.unusedSimpArgs false
def Ev {α : Type} (f : Nat → Option α) (v : α) : Prop := ∃ k0, ∀ k, k0 ≤ k → f k = some v
theorem Ev.const {α : Type} (v : α) : Ev (fun _ => some v) v := ⟨0, fun _ _ => rfl⟩
theorem Ev.succ {α : Type} {f : Nat → Option α} {v : α} (h : Ev (fun k => f (k + 1)) v) : Ev f v := by
  obtain ⟨k0, h⟩ := h
  refine ⟨k0 + 1, fun k hk => ?_⟩
  obtain ⟨j, rfl⟩ : ∃ j, k = j + 1 := ⟨k - 1, by omega⟩
  exact h j (by omega)
theorem Ev.bind {α β : Type} {f : Nat → Option α} {v : α} {g : Nat → α → Option β} {u : β} (h : Ev f v) (h2 : Ev (fun k => g k v) u) : Ev (fun k => (f k).bind (g k)) u := by
  obtain ⟨k0, h⟩ := h
  obtain ⟨k1, h2⟩ := h2
  refine ⟨max k0 k1, fun k hk => ?_⟩
  show (f k).bind (g k) = _
  rw [h k (by omega)]
  exact h2 k (by omega)
theorem Ev.congr {α : Type} {f g : Nat → Option α} {v u : α} (h : Ev f v) (hf : ∀ k, g k = f k) (e : v = u) : Ev g u := by
  obtain ⟨k0, h⟩ := h
  exact ⟨k0, fun k hk => by rw [hf, h k hk, e]⟩
theorem wrap64_id (x : Int) (h0 : -9223372036854775808 ≤ x) (h1 : x ≤ 9223372036854775807) : wrap64 x = x := by
  unfold wrap64; omega
theorem rd_at (ks : List Tree) (j : Nat) (h : j < ks.length) : rd_T24 ks (j : Int) = ks[j] := by
  simp [rd_T24, List.getD_eq_getElem?_getD, List.getElem?_eq_getElem h]
/-- The fold of the depths. -/
def deepK (m : Nat) (d : Nat) (ks : List Tree) : Nat := ks.foldl (fun d x => max d (1 + deepP m x)) d
theorem deepK_le (m : Nat) (hm : ∀ x : Tree, deepP m x ≤ m) : ∀ (ks : List Tree) (d : Nat), d ≤ m + 1 → deepK m d ks ≤ m + 1
  | [], d, h => h
  | x :: r, d, h => deepK_le m hm r _ (by have := hm x; show max d (1 + deepP m x) ≤ m + 1; omega)
theorem deepP_le : ∀ (m : Nat) (t : Tree), 1 ≤ m → deepP m t ≤ m
  | 0, t, h => by omega
  | 1, t, _ => by simp [deepP]
  | m + 2, t, _ => by
    simp only [deepP]
    split
    · exact deepK_le (m + 1) (fun x => deepP_le (m + 1) x (by omega)) _ _ (by omega)
    · omega
theorem mx_nat (a b : Nat) : mx (a : Int) (b : Int) = ((max a b : Nat) : Int) := by
  unfold mx
  split <;> omega
theorem deep_loop (m : Nat) (hm : m ≤ 14) (hm1 : 2 ≤ m) (ks : List Tree) (hl : ks.length ≤ 1954687338212) (ih : ∀ x ∈ ks, Ev (fun k => tree_deep.f k x.f0 x.f1 x.f2 x.f3 x.f4 ((m - 1 : Nat) : Int)) ((deepP (m - 1) x : Nat) : Int)) :
    ∀ (n j d : Nat), ks.length - j = n → j ≤ ks.length → Ev (fun k => tree_deep.l0 k m d ks ks.length j) ((deepK (m - 1) d (ks.drop j) : Nat) : Int)
  | 0, j, d, hn, hj => by
    refine Ev.succ ((Ev.const _).congr (fun k => ?_) rfl)
    simp only [tree_deep.l0]
    rw [if_neg (by omega), List.drop_of_length_le (by omega)]
    rfl
  | n + 1, j, d, hn, hj => by
    have hlt : j < ks.length := by omega
    refine Ev.succ (Ev.congr ((ih ks[j] (List.getElem_mem hlt)).bind (g := fun k t => tree_deep.l0 k m (mx d (wrap64 (1 + t))) ks ks.length ((j + 1 : Nat) : Int)) ?_) (fun k => ?_) rfl)
    · have hd := deepP_le (m - 1) ks[j] (by omega)
      rw [List.drop_eq_getElem_cons hlt]
      rw [wrap64_id _ (by omega) (by omega), show (1 + ((deepP (m - 1) ks[j] : Nat) : Int)) = ((1 + deepP (m - 1) ks[j] : Nat) : Int) by omega, mx_nat]
      exact deep_loop m hm hm1 ks hl ih n (j + 1) _ (by omega) (by omega)
    · simp only [tree_deep.l0]
      rw [if_pos (by omega), if_pos (by omega), if_pos (by omega), rd_at ks j hlt, wrap64_id ((m : Int) - 1) (by omega) (by omega), wrap64_id ((j : Int) + 1) (by omega) (by omega), show ((m : Int) - 1) = ((m - 1 : Nat) : Int) by omega]
      rfl
theorem deep_ev : ∀ (m : Nat) (t : Tree), Fit t → 1 ≤ m → m ≤ 14 → Ev (fun k => tree_deep.f k t.f0 t.f1 t.f2 t.f3 t.f4 m) ((deepP m t : Nat) : Int)
  | 0, t, _, h, _ => by omega
  | 1, t, _, _, _ => by
    refine Ev.succ (Ev.congr (f := fun k => tree_deep.j0 k 1 1 true t.f0 t.f1 t.f2 t.f3 t.f4) (v := 1) (Ev.succ ((Ev.const 1).congr (fun k => by simp [tree_deep.j0]) rfl)) (fun k => ?_) (by simp [deepP]))
    simp [tree_deep.f]
  | m + 2, t, hf, _, hm => by
    by_cases hk : t.f1 = 2
    · have e : deepP (m + 2) t = deepK (m + 1) 1 t.f4 := by simp only [deepP]; rw [if_pos ⟨hk, by omega⟩]; rfl
      rw [e]
      have h0 := deep_loop (m + 2) hm (by omega) t.f4 hf.kids (fun x hx => deep_ev (m + 1) x (hf.kid x hx) (by omega) (by omega)) t.f4.length 0 1 (by omega) (by omega)
      refine Ev.succ (Ev.congr (f := fun k => tree_deep.j0 k ((m + 2 : Nat) : Int) 1 false t.f0 t.f1 t.f2 t.f3 t.f4) (Ev.succ (h0.congr (fun k => ?_) rfl)) (fun k => ?_) rfl)
      · simp [tree_deep.j0]
      · simp only [tree_deep.f]
        rw [if_pos hk, show (((m + 2 : Nat) : Int) == 1) = false from beq_eq_false_iff_ne.mpr (by omega)]
    · have e : deepP (m + 2) t = 1 := by simp only [deepP]; rw [if_neg (by simp [hk])]
      rw [e]
      refine Ev.succ (Ev.congr (f := fun k => tree_deep.j0 k ((m + 2 : Nat) : Int) 1 true t.f0 t.f1 t.f2 t.f3 t.f4) (v := 1) (Ev.succ ((Ev.const 1).congr (fun k => by simp [tree_deep.j0]) rfl)) (fun k => ?_) rfl)
      simp only [tree_deep.f]
      rw [if_neg hk]
mutual
def depthP : Tree → Nat
  | ⟨_, kd, _, _, ks⟩ => if kd = 2 then max 1 (depthK ks) else 1
def depthK : List Tree → Nat
  | [] => 0
  | k :: r => max (1 + depthP k) (depthK r)
end
mutual
def sizeN : Tree → Nat
  | ⟨_, _, _, _, ks⟩ => 1 + sizeNs ks
def sizeNs : List Tree → Nat
  | [] => 0
  | k :: r => sizeN k + sizeNs r
end
mutual
def sizeB : Tree → Nat
  | ⟨_, _, _, dt, ks⟩ => dt.size + sizeBs ks
def sizeBs : List Tree → Nat
  | [] => 0
  | k :: r => sizeB k + sizeBs r
end
theorem depthP_eq (t : Tree) : depthP t = if t.f1 = 2 then max 1 (depthK t.f4) else 1 := by cases t; rfl
theorem sizeN_eq (t : Tree) : sizeN t = 1 + sizeNs t.f4 := by cases t; rfl
theorem sizeB_eq (t : Tree) : sizeB t = t.f3.size + sizeBs t.f4 := by cases t; rfl
theorem deepK_depth (m : Nat) (h : ∀ x : Tree, deepP m x = min m (depthP x)) : ∀ (ks : List Tree) (d : Nat), deepK m d ks = max d (min (m + 1) (depthK ks))
  | [], d => by simp [deepK, depthK]
  | x :: r, d => by
    have e : deepK m d (x :: r) = deepK m (max d (1 + deepP m x)) r := rfl
    rw [e, deepK_depth m h r, h x]
    simp only [depthK]
    omega
theorem deepP_depth : ∀ (m : Nat) (t : Tree), 1 ≤ m → deepP m t = min m (depthP t)
  | 0, t, h => by omega
  | 1, t, _ => by
    rw [depthP_eq]; simp only [deepP]
    rw [if_neg (by simp)]
    split <;> omega
  | m + 2, t, _ => by
    rw [depthP_eq]
    by_cases hk : t.f1 = 2
    · have e : deepP (m + 2) t = deepK (m + 1) 1 t.f4 := by simp only [deepP]; rw [if_pos ⟨hk, by omega⟩]; rfl
      rw [e, deepK_depth (m + 1) (fun x => deepP_depth (m + 1) x (by omega)), if_pos hk]
      omega
    · have e : deepP (m + 2) t = 1 := by simp only [deepP]; rw [if_neg (by simp [hk])]
      rw [e, if_neg hk]; omega
theorem depthK_mem : ∀ (ks : List Tree) (x : Tree), x ∈ ks → 1 + depthP x ≤ depthK ks
  | k :: r, x, h => by
    simp only [depthK]
    rcases List.mem_cons.1 h with rfl | h
    · omega
    · have := depthK_mem r x h; omega
theorem sizeNs_mem : ∀ (ks : List Tree) (x : Tree), x ∈ ks → sizeN x + sizeB x ≤ sizeNs ks + sizeBs ks
  | k :: r, x, h => by
    simp only [sizeNs, sizeBs]
    rcases List.mem_cons.1 h with rfl | h
    · omega
    · have := sizeNs_mem r x h; omega
theorem sizeNs_drop (ks : List Tree) (j : Nat) (h : j < ks.length) : sizeNs (ks.drop j) = sizeN ks[j] + sizeNs (ks.drop (j + 1)) ∧ sizeBs (ks.drop j) = sizeB ks[j] + sizeBs (ks.drop (j + 1)) := by
  rw [List.drop_eq_getElem_cons h]; exact ⟨rfl, rfl⟩
theorem tooDeep_ev (t : Tree) (hf : Fit t) : Ev (fun k => tree_tooDeep.f k t.f0 t.f1 t.f2 t.f3 t.f4) (decide (12 < depthP t)) := by
  refine Ev.congr ((deep_ev 14 t hf (by omega) (by omega)).bind (g := fun k t106 => some (decide (t106 > 12))) ((Ev.const _))) (fun k => ?_) ?_
  · simp only [tree_tooDeep.f, tree_Deep.f]
    show ((tree_deep.f k t.f0 t.f1 t.f2 t.f3 t.f4 14).bind fun t106 => some t106).bind _ = _
    cases tree_deep.f k t.f0 t.f1 t.f2 t.f3 t.f4 14 <;> rfl
  · rw [deepP_depth 14 t (by omega)]
    by_cases h : 12 < depthP t
    · simp [h]; omega
    · simp [h]; omega
theorem size_loop (ks : List Tree) (hl : ks.length ≤ 1954687338212) (hf : ∀ x ∈ ks, Fit x) (hd : ∀ x ∈ ks, depthP x ≤ 12)
    (ih : ∀ x ∈ ks, Ev (fun k => tree_size.f k x.f0 x.f1 x.f2 x.f3 x.f4) (((sizeN x : Nat) : Int), ((sizeB x : Nat) : Int))) :
    ∀ (n j a b : Nat), ks.length - j = n → j ≤ ks.length → a + b + (sizeNs (ks.drop j) + sizeBs (ks.drop j)) < 4611686018427387904 → Ev (fun k => tree_size.l0 k a b ks ks.length j) (((a + sizeNs (ks.drop j) : Nat) : Int), ((b + sizeBs (ks.drop j) : Nat) : Int))
  | 0, j, a, b, hn, hj, hz => by
    refine Ev.succ ((Ev.const _).congr (fun k => ?_) rfl)
    simp only [tree_size.l0]
    rw [if_neg (by omega), List.drop_of_length_le (by omega)]
    rfl
  | n + 1, j, a, b, hn, hj, hz => by
    have hlt : j < ks.length := by omega
    have hmem := List.getElem_mem hlt
    obtain ⟨e1, e2⟩ := sizeNs_drop ks j hlt
    rw [e1, e2] at hz
    have hz' : (a + sizeN ks[j]) + (b + sizeB ks[j]) + (sizeNs (ks.drop (j + 1)) + sizeBs (ks.drop (j + 1))) < 4611686018427387904 := by omega
    have h0 := size_loop ks hl hf hd ih n (j + 1) (a + sizeN ks[j]) (b + sizeB ks[j]) (by omega) (by omega) hz'
    have h1 := (ih ks[j] hmem).bind (g := fun k (bt : Int × Int) => tree_size.l0 k (wrap64 (a + bt.1)) (wrap64 (b + bt.2)) ks ks.length ((j + 1 : Nat) : Int)) (h0.congr (fun k => by
      show tree_size.l0 k (wrap64 ((a : Int) + ((sizeN ks[j] : Nat) : Int))) (wrap64 ((b : Int) + ((sizeB ks[j] : Nat) : Int))) ks ks.length ((j + 1 : Nat) : Int) = _
      rw [wrap64_id _ (by omega) (by omega), wrap64_id _ (by omega) (by omega), ← Int.natCast_add, ← Int.natCast_add]) rfl)
    refine Ev.succ (Ev.congr ((tooDeep_ev ks[j] (hf _ hmem)).bind (g := fun k t112 => if t112 = true then (tree_size.l0 k a b ks ks.length ((j + 1 : Nat) : Int)) else ((tree_size.f k ks[j].f0 ks[j].f1 ks[j].f2 ks[j].f3 ks[j].f4).bind fun bt => tree_size.l0 k (wrap64 (a + bt.1)) (wrap64 (b + bt.2)) ks ks.length ((j + 1 : Nat) : Int))) (h1.congr (fun k => ?_) rfl)) (fun k => ?_) ?_)
    · rw [if_neg (by have := hd _ hmem; simp; omega)]
    · simp only [tree_size.l0]
      rw [if_pos (by omega), if_pos (by omega), if_pos (by omega), rd_at ks j hlt, wrap64_id ((j : Int) + 1) (by omega) (by omega)]
      rfl
    · rw [e1, e2]
      simp only [Prod.mk.injEq]
      exact ⟨by omega, by omega⟩
theorem mayP_kids (t : Tree) (hm : mayP t = true) : (t.f4 = [] ∨ t.f1 = 2) ∧ ∀ x ∈ t.f4, mayP x = true := by
  obtain ⟨nm, kd, ex, dt, ks⟩ := t
  have hmk : ∀ (p : Option ByteArray) (ks : List Tree), mayKids p ks = true → ∀ k ∈ ks, mayP k = true := by
    intro p ks
    induction ks generalizing p with
    | nil => intro _ k hk; cases hk
    | cons x r ih =>
      intro h k hk
      simp only [mayKids, Bool.and_eq_true] at h
      rcases List.mem_cons.1 hk with rfl | hk
      · exact h.1.1.2
      · exact ih _ h.2 k hk
  by_cases k1 : kd = 1
  · subst k1
    have hn : ks = [] := by simpa [mayP] using hm
    subst hn
    exact ⟨.inl rfl, fun x hx => by cases hx⟩
  by_cases k2 : kd = 2
  · subst k2
    have hn : mayKids none ks = true := by simp [mayP] at hm; exact hm.2
    exact ⟨.inr rfl, hmk none ks hn⟩
  by_cases k3 : kd = 3
  · subst k3
    have hn : ks = [] := by simp [mayP] at hm; exact hm.1.1.1.1
    subst hn
    exact ⟨.inl rfl, fun x hx => by cases hx⟩
  simp [mayP, k1, k2, k3] at hm
theorem depth_kid (t : Tree) (hm : mayP t = true) (x : Tree) (hx : x ∈ t.f4) : 1 + depthP x ≤ depthP t := by
  rcases (mayP_kids t hm).1 with h | h
  · rw [h] at hx; cases hx
  · rw [depthP_eq t, if_pos h]; have := depthK_mem t.f4 x hx; omega
theorem size_ev (t : Tree) (hf : Fit t) : mayP t = true → depthP t ≤ 12 → sizeN t + sizeB t < 4611686018427387904 → Ev (fun k => tree_size.f k t.f0 t.f1 t.f2 t.f3 t.f4) (((sizeN t : Nat) : Int), ((sizeB t : Nat) : Int)) := by
  induction hf with
  | mk t h0 h1 h3 h4 hk ih =>
    intro hm hd hz
    have hz2 : sizeNs t.f4 + sizeBs t.f4 < 4611686018427387904 := by rw [sizeN_eq, sizeB_eq] at hz; omega
    have h := size_loop t.f4 h4 hk (fun x hx => by have := depth_kid t hm x hx; omega) (fun x hx => ih x hx ((mayP_kids t hm).2 x hx) (by have := depth_kid t hm x hx; omega) (by have := sizeNs_mem t.f4 x hx; omega)) t.f4.length 0 1 t.f3.size (by omega) (by omega) (by rw [List.drop_zero]; rw [sizeN_eq, sizeB_eq] at hz; omega)
    refine Ev.succ (h.congr (fun k => ?_) ?_)
    · simp only [tree_size.f]; rfl
    · rw [List.drop_zero, sizeN_eq, sizeB_eq]
/-- What Check tells. -/
def checkP (t : Tree) : Int := if 12 < depthP t then 3 else if t.f0.data.toList = [] ∧ mayP t = true then (if 2000 < sizeN t ∨ 100000 < sizeB t then 3 else 0) else 2
/-- A tree whose size is a number. -/
def Sized (t : Tree) : Prop := depthP t ≤ 12 → mayP t = true → sizeN t + sizeB t < 4611686018427387904
theorem Size_ev (t : Tree) (hf : Fit t) (hm : mayP t = true) (hd : depthP t ≤ 12) (hz : sizeN t + sizeB t < 4611686018427387904) : Ev (fun k => tree_Size.f k t.f0 t.f1 t.f2 t.f3 t.f4) (((sizeN t : Nat) : Int), ((sizeB t : Nat) : Int)) := by
  refine Ev.congr ((tooDeep_ev t hf).bind (g := fun k t116 => if t116 = true then some (0, 0) else ((tree_size.f k t.f0 t.f1 t.f2 t.f3 t.f4).bind fun bt117 => some (bt117.1, bt117.2))) (((size_ev t hf hm hd hz).bind (g := fun k (bt : Int × Int) => some (bt.1, bt.2)) (Ev.const _)).congr (fun k => ?_) rfl)) (fun k => rfl) rfl
  rw [if_neg (by simp; omega)]
theorem may_f (t : Tree) (hf : Fit t) : tree_may.f t.f0 t.f1 t.f2 t.f3 t.f4 = some (mayP t) := by
  cases t; exact if_pos hf
theorem check_ev (t : Tree) (hf : Fit t) (hz : Sized t) : Ev (fun k => tree_Check.f k t.f0 t.f1 t.f2 t.f3 t.f4) (checkP t) := by
  refine Ev.congr ((tooDeep_ev t hf).bind (g := fun k t277 => (if t277 = true then (some 3) else (if t.f0.toList = ([] : List UInt8) then ((tree_may.f t.f0 t.f1 t.f2 t.f3 t.f4).bind fun t278 => (tree_Check.j0 k (!t278) t.f0 t.f1 t.f2 t.f3 t.f4)) else (tree_Check.j0 k true t.f0 t.f1 t.f2 t.f3 t.f4)))) ?_) (fun k => rfl) rfl
  by_cases hd : 12 < depthP t
  · refine (Ev.const 3).congr (fun k => ?_) ?_
    · rw [if_pos (by simpa using hd)]
    · rw [checkP, if_pos hd]
  by_cases hn : t.f0.data.toList = []
  · cases hm : mayP t with
    | false =>
      refine Ev.congr (f := fun k => tree_Check.j0 k true t.f0 t.f1 t.f2 t.f3 t.f4) (v := 2) (Ev.succ ((Ev.const 2).congr (fun k => by simp [tree_Check.j0]) rfl)) (fun k => ?_) ?_
      · rw [if_neg (by simpa using hd), if_pos (by rw [tl_eq]; exact hn), may_f t hf, hm]; rfl
      · rw [checkP, if_neg hd, if_neg (by simp [hm])]
    | true =>
      refine Ev.congr (f := fun k => tree_Check.j0 k false t.f0 t.f1 t.f2 t.f3 t.f4) (Ev.succ (((Size_ev t hf hm (by omega) (hz (by omega) hm)).bind (g := fun k (bt279 : Int × Int) => (if bt279.1 > 2000 then (some 3) else (if bt279.2 > 100000 then (some 3) else (some 0)))) (v := ((sizeN t : Int), (sizeB t : Int))) (u := if 2000 < sizeN t ∨ 100000 < sizeB t then 3 else 0) ?_).congr (fun k => ?_) rfl)) (fun k => ?_) ?_
      · refine (Ev.const _).congr (fun k => ?_) rfl
        by_cases h1 : 2000 < sizeN t
        · rw [if_pos (by show ((sizeN t : Nat) : Int) > 2000; omega), if_pos (Or.inl h1)]
        · rw [if_neg (by show ¬ ((sizeN t : Nat) : Int) > 2000; omega)]
          by_cases h2 : 100000 < sizeB t
          · rw [if_pos (by show ((sizeB t : Nat) : Int) > 100000; omega), if_pos (Or.inr h2)]
          · rw [if_neg (by show ¬ ((sizeB t : Nat) : Int) > 100000; omega), if_neg (by omega)]
      · simp only [tree_Check.j0]; rfl
      · rw [if_neg (by simpa using hd), if_pos (by rw [tl_eq]; exact hn), may_f t hf, hm]; rfl
      · unfold checkP; rw [if_neg hd, if_pos (show t.f0.data.toList = [] ∧ mayP t = true from ⟨hn, hm⟩)]
  · refine Ev.congr (f := fun k => tree_Check.j0 k true t.f0 t.f1 t.f2 t.f3 t.f4) (v := 2) (Ev.succ ((Ev.const 2).congr (fun k => by simp [tree_Check.j0]) rfl)) (fun k => ?_) ?_
    · rw [if_neg (by simpa using hd), if_neg (by rw [tl_eq]; exact hn)]
    · rw [checkP, if_neg hd, if_neg (by simp [hn])]
end Go.Proofs.Ytnnpfahlfmeakaa
namespace Go.Proofs.Ytnnpfahlfmeakaa.PB
open Go.RowKit Go.Proofs.Ytnnpfahlfmeakaa Go.Proofs.YtnnpfahlfmeakaaW.PrintWords Go.Proofs.YtnnpfahlfmeakaaW.PrintLast
set_option linter.unusedVariables false
set_option linter.unusedSimpArgs false
mutual
/-- Whether two nodes are the same. -/
def sameP : Tree → Tree → Bool
  | ⟨n1, k1, e1, d1, l1⟩, b => !(decide (12 < depthP ⟨n1, k1, e1, d1, l1⟩)) && !(decide (12 < depthP b)) && (n1.toList == b.f0.toList) && (k1 == b.f1) && (e1 == b.f2) && (d1.toList == b.f3.toList) && sameKs l1 b.f4
def sameKs : List Tree → List Tree → Bool
  | [], l => l.isEmpty
  | x :: r, l => match l with
    | [] => false
    | y :: s => sameP x y && sameKs r s
end
theorem sameP_eq (a b : Tree) : sameP a b = (!(decide (12 < depthP a)) && !(decide (12 < depthP b)) && (a.f0.toList == b.f0.toList) && (a.f1 == b.f1) && (a.f2 == b.f2) && (a.f3.toList == b.f3.toList) && sameKs a.f4 b.f4) := by
  cases a; simp only [sameP]
theorem sameKs_len : ∀ (a b : List Tree), a.length ≠ b.length → sameKs a b = false
  | [], [], h => absurd rfl h
  | [], _ :: _, _ => rfl
  | _ :: _, [], _ => rfl
  | x :: r, y :: s, h => by
    simp only [sameKs]
    rw [sameKs_len r s (by simpa using h)]
    simp
theorem sameKs_drop (a b : List Tree) (k : Nat) (h1 : k < a.length) (h2 : k < b.length) : sameKs (a.drop k) (b.drop k) = (sameP (rd_T24 a k) (rd_T24 b k) && sameKs (a.drop (k + 1)) (b.drop (k + 1))) := by
  rw [rd_at a k h1, rd_at b k h2, List.drop_eq_getElem_cons h1, List.drop_eq_getElem_cons h2]
  simp only [sameKs, List.drop_succ_cons]
def SameAt (a : Tree) : Prop := ∀ (b : Tree) (A : Option Addr) (c : Nat) (B : Option Addr) (d : Nat) (w : World), Fit b → Kd.C k24 w A a.f4.length a.f4 → a.f4.length ≤ c → Kd.C k24 w B b.f4.length b.f4 → b.f4.length ≤ d →
  Calls Try.prog 17 #[.agg #[.string a.f0, .int .i64 a.f1, .bool a.f2, .string a.f3, .slice A a.f4.length c], .agg #[.string b.f0, .int .i64 b.f1, .bool b.f2, .string b.f3, .slice B b.f4.length d]] w fun e w' => e = .returned (.bool (sameP a b)) ∧ Below w.heap.size w w'
theorem ret_boolS {a b : Bool} (h : a = b) : Ending.returned (.bool a) = .returned (.bool b) := by rw [h]
theorem tooDeep_calls (t : Tree) (hf : Fit t) (A : Option Addr) (c : Nat) (w : World) (h : Kd.C k24 w A t.f4.length t.f4) (hl : t.f4.length ≤ c) :
    Calls Try.prog 36 #[.agg #[.string t.f0, .int .i64 t.f1, .bool t.f2, .string t.f3, .slice A t.f4.length c]] w fun e w' => e = .returned (.bool (decide (12 < depthP t))) ∧ Below w.heap.size w w' := by
  obtain ⟨k0, hk0⟩ := tooDeep_ev t hf
  exact tree_tooDeep.calls k0 t.f0 t.f1 t.f2 t.f3 A c t.f4 _ w h hl (hk0 k0 (Nat.le_refl _))
set_option maxRecDepth 100000 in
set_option maxHeartbeats 1000000 in
theorem equal_any (ks ls : List Tree) (hk : ∀ x ∈ ks, SameAt x) (hl : ∀ y ∈ ls, Fit y) (A : Option Addr) (c : Nat) (B : Option Addr) (d : Nat) (w : World) (hA : Kd.C k24 w A ks.length ks) (hc : ks.length ≤ c) (hB : Kd.C k24 w B ls.length ls) (hd : ls.length ≤ d) :
    Calls Try.prog 38 #[.slice A ks.length c, .slice B ls.length d, .func (.func 17) #[] #[]] w fun e w' => e = .returned (.bool (sameKs ks ls)) ∧ Below w.heap.size w w' := by
  have hu := Try.underlying24
  have HI := Aside0.mk hk
  have HF := Aside0.mk hl
  have HA := Aside0.mk hA
  have HB := Aside0.mk hB
  have hln : ks.length ≤ 9223372036854775807 := hA.2.1
  clear hk hl hA hB hc hd
  by_cases hlen : ks.length = ls.length
  · have he : ∀ W : World, (callFunc 17 #[]).run Try.prog W = .ok (.enter 17 #[]) W := fun W => by kernel_rfl
    have hne : ((ks.length : Int) != (ls.length : Int)) = false := by simp [hlen]
    have HLEN := Aside0.mk hlen
    clear hlen
    go_enter Try.func38, Try.ntmps38
    go_wp2
    go_loopw [17] (fun i wr => ∃ k : Nat, k ≤ ks.length ∧ i = .int .i64 k ∧ Aside0 (sameKs ks ls = sameKs (ks.drop k) (ls.drop k)) ∧ Aside0 (Below w.heap.size w wr)) (fun i wr => ks.length - (intOf i).toNat)
    case atStart => exact ⟨0, Nat.zero_le _, rfl, ⟨rfl⟩, ⟨Below.refl _ _⟩⟩
    case round =>
      obtain ⟨k, hk, rfl, HZ, HW⟩ := hrel
      by_cases hlt : k < ks.length
      · have hlt2 : k < ls.length := by have := HLEN.out; omega
        have HM := Aside0.mk (sameKs_drop ks ls k hlt hlt2)
        obtain ⟨ad, A4, c4', rfl, e0, e1, e2, e3, e4, l4, g4⟩ := at_T24 (Kd.C_below HA.out HW.out) (k : Int) (by omega) (by omega)
        obtain ⟨ad2, B4, d4', rfl, f0, f1, f2, f3, f4, l5, g5⟩ := at_T24 (Kd.C_below HB.out HW.out) (k : Int) (by omega) (by omega)
        obtain ⟨x, hx⟩ : ∃ x, rd_T24 ks (k : Int) = x := ⟨_, rfl⟩
        obtain ⟨y, hy⟩ : ∃ y, rd_T24 ls (k : Int) = y := ⟨_, rfl⟩
        have hmx : x ∈ ks := by rw [← hx, rd_at ks k hlt]; exact List.getElem_mem hlt
        have hmy : y ∈ ls := by rw [← hy, rd_at ls k hlt2]; exact List.getElem_mem hlt2
        rw [hx] at e0 e1 e2 e3 e4 l4 g4 HM
        rw [hy] at f0 f1 f2 f3 f4 l5 g5 HM
        have HC := Aside0.mk (fun W (hW : Below wr.heap.size wr W) => HI.out x hmx y A4 c4' B4 d4' W (HF.out y hmy) (Kd.C_below g4 hW) l4 (Kd.C_below g5 hW) l5)
        clear hx hy hmx hmy l4 g4 l5 g5
        rw [Int.toNat_natCast] at e0 e1 e2 e3 e4 f0 f1 f2 f3 f4
        have h0 := pw_cell_below (below_alloc (Below.refl _ wr) (.cells #[.string x.f0, .int .i64 x.f1, .bool x.f2, .string x.f3, .slice A4 x.f4.length c4'] 24)) f0
        have h1 := pw_cell_below (below_alloc (Below.refl _ wr) (.cells #[.string x.f0, .int .i64 x.f1, .bool x.f2, .string x.f3, .slice A4 x.f4.length c4'] 24)) f1
        have h2 := pw_cell_below (below_alloc (Below.refl _ wr) (.cells #[.string x.f0, .int .i64 x.f1, .bool x.f2, .string x.f3, .slice A4 x.f4.length c4'] 24)) f2
        have h3 := pw_cell_below (below_alloc (Below.refl _ wr) (.cells #[.string x.f0, .int .i64 x.f1, .bool x.f2, .string x.f3, .slice A4 x.f4.length c4'] 24)) f3
        have h4 := pw_cell_below (below_alloc (Below.refl _ wr) (.cells #[.string x.f0, .int .i64 x.f1, .bool x.f2, .string x.f3, .slice A4 x.f4.length c4'] 24)) f4
        cases hs : sameP x y with
        | true =>
          rw [hs] at HC
          have HS := Aside0.mk hs
          clear hs
          go_wp2_with (go_at_call 17; refine (HC.out _ (below_alloc (below_alloc (Below.refl _ _) _) _)).mono ?_; rintro e w1 ⟨rfl, hb⟩; have HB1 := Aside0.mk (below_then (below_alloc (below_alloc (Below.refl _ wr) (.cells #[.string x.f0, .int .i64 x.f1, .bool x.f2, .string x.f3, .slice A4 x.f4.length c4'] 24)) (.cells #[.string y.f0, .int .i64 y.f1, .bool y.f2, .string y.f3, .slice B4 y.f4.length d4'] 24)) (below_alloc (below_alloc (Below.refl _ wr) (.cells #[.string x.f0, .int .i64 x.f1, .bool x.f2, .string x.f3, .slice A4 x.f4.length c4'] 24)) (.cells #[.string y.f0, .int .i64 y.f1, .bool y.f2, .string y.f3, .slice B4 y.f4.length d4'] 24)).size hb); clear hb)
          go_roundw
          case rel => exact ⟨k + 1, by omega, by go_num, ⟨by rw [HZ.out, HM.out, HS.out]; simp⟩, ⟨below_then HW.out HW.out.size HB1.out⟩⟩
          case measure => simp [intOf]; omega
        | false =>
          rw [hs] at HC
          have HS := Aside0.mk hs
          clear hs
          go_wp2_with (go_at_call 17; refine (HC.out _ (below_alloc (below_alloc (Below.refl _ _) _) _)).mono ?_; rintro e w1 ⟨rfl, hb⟩; have HB1 := Aside0.mk (below_then (below_alloc (below_alloc (Below.refl _ wr) (.cells #[.string x.f0, .int .i64 x.f1, .bool x.f2, .string x.f3, .slice A4 x.f4.length c4'] 24)) (.cells #[.string y.f0, .int .i64 y.f1, .bool y.f2, .string y.f3, .slice B4 y.f4.length d4'] 24)) (below_alloc (below_alloc (Below.refl _ wr) (.cells #[.string x.f0, .int .i64 x.f1, .bool x.f2, .string x.f3, .slice A4 x.f4.length c4'] 24)) (.cells #[.string y.f0, .int .i64 y.f1, .bool y.f2, .string y.f3, .slice B4 y.f4.length d4'] 24)).size hb); clear hb)
          go_ret
          refine ⟨ret_boolS ?_, below_then HW.out HW.out.size HB1.out⟩
          rw [HZ.out, HM.out, HS.out]
          rfl
      · have hkk : k = ks.length := by omega
        have HZ2 := Aside0.mk (show sameKs ks ls = true by rw [HZ.out, hkk, List.drop_length, HLEN.out, List.drop_length]; rfl)
        clear hkk
        go_wp2
        go_ret
        exact ⟨ret_boolS HZ2.out.symm, HW.out⟩
  · have hne : ((ks.length : Int) != (ls.length : Int)) = true := by simp; omega
    have HN := Aside0.mk (sameKs_len ks ls hlen)
    clear hlen
    go_enter Try.func38, Try.ntmps38
    go_wp2
    go_ret
    exact ⟨ret_boolS HN.out.symm, Below.refl _ _⟩
set_option maxRecDepth 100000 in
set_option maxHeartbeats 1000000 in
theorem same_at (a : Tree) (hf : Fit a) (ih : ∀ x ∈ a.f4, SameAt x) : SameAt a := by
  intro b A c B d w hfb hA hc hB hd
  have hu := Try.underlying24
  have HSE := Aside0.mk (sameP_eq a b)
  have HTA := Aside0.mk (fun W (h : Kd.C k24 W A a.f4.length a.f4) => tooDeep_calls a hf A c W h hc)
  have HTB := Aside0.mk (fun W (h : Kd.C k24 W B b.f4.length b.f4) => tooDeep_calls b hfb B d W h hd)
  have HEQ := Aside0.mk (fun W (h : Kd.C k24 W A a.f4.length a.f4) (h2 : Kd.C k24 W B b.f4.length b.f4) => equal_any a.f4 b.f4 ih hfb.kid A c B d W h hc h2 hd)
  have HA := Aside0.mk hA
  have HB := Aside0.mk hB
  clear hf ih hfb hA hB hc hd
  obtain ⟨n1, k1, e1, d1, l1⟩ := a
  obtain ⟨n2, k2, e2, d2, l2⟩ := b
  dsimp only at *
  generalize decide (12 < depthP ⟨n1, k1, e1, d1, l1⟩) = da at *
  generalize decide (12 < depthP ⟨n2, k2, e2, d2, l2⟩) = db at *
  go_enter Try.func17, Try.ntmps17
  go_wp2_with fail
  have B1 := Aside0.mk (below_alloc (Below.refl _ w) (.cells #[.string n1, .int .i64 k1, .bool e1, .string d1, .slice A l1.length c] 24))
  have B2 := Aside0.mk (below_alloc B1.out (.cells #[.string n2, .int .i64 k2, .bool e2, .string d2, .slice B l2.length d] 24))
  have N0 := Aside0.mk (show ((w.alloc (.cells #[.string n1, .int .i64 k1, .bool e1, .string d1, .slice A l1.length c] 24)).alloc (.cells #[.string n2, .int .i64 k2, .bool e2, .string d2, .slice B l2.length d] 24)).heap[w.heap.size]? = some (.cells #[.string n1, .int .i64 k1, .bool e1, .string d1, .slice A l1.length c] 24 (0, 0)) from blk_alloc (heap_alloc_new w _) _)
  have M0 := Aside0.mk (show ((w.alloc (.cells #[.string n1, .int .i64 k1, .bool e1, .string d1, .slice A l1.length c] 24)).alloc (.cells #[.string n2, .int .i64 k2, .bool e2, .string d2, .slice B l2.length d] 24)).heap[w.heap.size + 1]? = some (.cells #[.string n2, .int .i64 k2, .bool e2, .string d2, .slice B l2.length d] 24 (0, 0)) from by
    have := heap_alloc_new (w.alloc (.cells #[.string n1, .int .i64 k1, .bool e1, .string d1, .slice A l1.length c] 24)) (.cells #[.string n2, .int .i64 k2, .bool e2, .string d2, .slice B l2.length d] 24)
    rwa [show (w.alloc (.cells #[.string n1, .int .i64 k1, .bool e1, .string d1, .slice A l1.length c] 24)).heap.size = w.heap.size + 1 from Array.size_push _] at this)
  generalize (w.alloc (.cells #[.string n1, .int .i64 k1, .bool e1, .string d1, .slice A l1.length c] 24)).alloc (.cells #[.string n2, .int .i64 k2, .bool e2, .string d2, .slice B l2.length d] 24) = W2 at B2 N0 M0 ⊢
  refine (HTA.out W2 (Kd.C_below HA.out B2.out)).mono ?_
  rintro e w3 ⟨rfl, hb⟩
  have N3 := Aside0.mk (blk_below N0.out hb)
  have M3 := Aside0.mk (blk_below M0.out hb)
  have B3 := Aside0.mk (below_then B2.out B2.out.size hb)
  clear hb N0 M0 B2 B1 HTA
  have z0 := (blk_cell M3.out 0).trans (rfl : _ = some (Value.string n2))
  have z1 := (blk_cell M3.out 1).trans (rfl : _ = some (Value.int .i64 k2))
  have z2 := (blk_cell M3.out 2).trans (rfl : _ = some (Value.bool e2))
  have z3 := (blk_cell M3.out 3).trans (rfl : _ = some (Value.string d2))
  have z4 := (blk_cell M3.out 4).trans (rfl : _ = some (Value.slice B l2.length d))
  have HTB3 := Aside0.mk (HTB.out w3 (Kd.C_below HB.out B3.out))
  clear HTB
  cases da with
  | true =>
    go_wp2_with fail
    go_ret
    refine ⟨ret_boolS ?_, B3.out⟩
    rw [HSE.out]; rfl
  | false =>
  go_wp2_with fail
  refine HTB3.out.mono ?_
  rintro e w4 ⟨rfl, hb⟩
  have N4 := Aside0.mk (blk_below N3.out hb)
  have M4 := Aside0.mk (blk_below M3.out hb)
  have B4 := Aside0.mk (below_then B3.out B3.out.size hb)
  clear hb N3 M3 B3 HTB3 z0 z1 z2 z3 z4
  have z0 := (blk_cell M4.out 0).trans (rfl : _ = some (Value.string n2))
  have z1 := (blk_cell M4.out 1).trans (rfl : _ = some (Value.int .i64 k2))
  have z2 := (blk_cell M4.out 2).trans (rfl : _ = some (Value.bool e2))
  have z3 := (blk_cell M4.out 3).trans (rfl : _ = some (Value.string d2))
  have z4 := (blk_cell M4.out 4).trans (rfl : _ = some (Value.slice B l2.length d))
  have x0 := (blk_cell N4.out 0).trans (rfl : _ = some (Value.string n1))
  have x1 := (blk_cell N4.out 1).trans (rfl : _ = some (Value.int .i64 k1))
  have x2 := (blk_cell N4.out 2).trans (rfl : _ = some (Value.bool e1))
  have x3 := (blk_cell N4.out 3).trans (rfl : _ = some (Value.string d1))
  have x4 := (blk_cell N4.out 4).trans (rfl : _ = some (Value.slice A l1.length c))
  have HEQ4 := Aside0.mk (HEQ.out w4 (Kd.C_below HA.out B4.out) (Kd.C_below HB.out B4.out))
  clear HEQ
  cases db with
  | true =>
    go_wp2_with fail
    go_ret
    refine ⟨ret_boolS ?_, B4.out⟩
    rw [HSE.out]; rfl
  | false =>
  cases g0 : (n1.toList == n2.toList) with
  | false =>
    go_wp2_with fail
    go_ret
    refine ⟨ret_boolS ?_, B4.out⟩
    rw [HSE.out, g0]; rfl
  | true =>
  cases g1 : (k1 == k2) with
  | false =>
    go_wp2_with fail
    go_ret
    refine ⟨ret_boolS ?_, B4.out⟩
    rw [HSE.out, g0, g1]; rfl
  | true =>
  cases g2 : (e1 == e2) with
  | false =>
    go_wp2_with fail
    go_ret
    refine ⟨ret_boolS ?_, B4.out⟩
    rw [HSE.out, g0, g1, g2]; rfl
  | true =>
  cases g3 : (d1.toList == d2.toList) with
  | false =>
    go_wp2_with fail
    go_ret
    refine ⟨ret_boolS ?_, B4.out⟩
    rw [HSE.out, g0, g1, g2, g3]; rfl
  | true =>
  go_wp2_with fail
  refine HEQ4.out.mono ?_
  rintro e w5 ⟨rfl, hb⟩
  have B5 := Aside0.mk (below_then B4.out B4.out.size hb)
  clear hb
  go_wp2_with fail
  go_ret
  refine ⟨ret_boolS ?_, B5.out⟩
  rw [HSE.out, g0, g1, g2, g3]; simp
theorem same_any (a : Tree) (h : Fit a) : SameAt a := by
  induction h with
  | mk t h0 h1 h3 h4 hk ih => exact same_at t (Fit.mk t h0 h1 h3 h4 hk) ih
open Classical in
noncomputable def tree_Same.f (a0 : ByteArray) (a1 : Int) (a2 : Bool) (a3 : ByteArray) (l : List S24) (b0 : ByteArray) (b1 : Int) (b2 : Bool) (b3 : ByteArray) (m : List S24) : Option Bool := if Fit ⟨a0, a1, a2, a3, l⟩ ∧ Fit ⟨b0, b1, b2, b3, m⟩ then some (sameP ⟨a0, a1, a2, a3, l⟩ ⟨b0, b1, b2, b3, m⟩) else none
theorem tree_Same.calls (a0_0 : ByteArray) (a0_1 : Int) (a0_2 : Bool) (a0_3 : ByteArray) (A0_4 : Option Addr) (c0_4 : Nat) (l0_4 : List S24) (a1_0 : ByteArray) (a1_1 : Int) (a1_2 : Bool) (a1_3 : ByteArray) (A1_4 : Option Addr) (c1_4 : Nat) (l1_4 : List S24) (r : Bool) (w : World) (hr0_4 : Kd.C k24 w A0_4 l0_4.length l0_4) (hc0_4 : l0_4.length ≤ c0_4) (hr1_4 : Kd.C k24 w A1_4 l1_4.length l1_4) (hc1_4 : l1_4.length ≤ c1_4) (h : tree_Same.f a0_0 a0_1 a0_2 a0_3 l0_4 a1_0 a1_1 a1_2 a1_3 l1_4 = some r) :
    Calls Try.prog 17 #[.agg #[.string a0_0, .int .i64 a0_1, .bool a0_2, .string a0_3, .slice A0_4 l0_4.length c0_4], .agg #[.string a1_0, .int .i64 a1_1, .bool a1_2, .string a1_3, .slice A1_4 l1_4.length c1_4]] w fun e w' => e = .returned (.bool r) ∧ Below w.heap.size w w' := by
  unfold tree_Same.f at h
  split at h
  · rename_i hf
    obtain rfl := Option.some.inj h
    exact same_any ⟨a0_0, a0_1, a0_2, a0_3, l0_4⟩ hf.1 ⟨a1_0, a1_1, a1_2, a1_3, l1_4⟩ A0_4 c0_4 A1_4 c1_4 w hf.2 hr0_4 hc0_4 hr1_4 hc1_4
  · cases h
end Go.Proofs.Ytnnpfahlfmeakaa.PB
namespace Go.Proofs.Ytnnpfahlfmeakaa
open Go.RowKit Go.Proofs.Ytnnpfahlfmeakaa.PB Go.Proofs.YtnnpfahlfmeakaaW.PrintWords Go.Proofs.YtnnpfahlfmeakaaW.PrintLast
set_option linter.unusedVariables false
set_option linter.unusedSimpArgs false
def shortP : Nat → Tree → Tree
  | 0, t => ⟨t.f0, t.f1, t.f2, t.f3.extract 0 (min t.f3.size 300), []⟩
  | d + 1, t => ⟨t.f0, t.f1, t.f2, t.f3.extract 0 (min t.f3.size 300), (t.f4.take 20).map (shortP d)⟩
theorem cut_size (s : ByteArray) : (s.extract 0 (min s.size 300)).size = min s.size 300 := by
  rw [ByteArray.size_extract]; omega
theorem shortP_data (d : Nat) (t : Tree) : (shortP d t).f3.size ≤ 300 := by
  cases d <;> (show (t.f3.extract 0 (min t.f3.size 300)).size ≤ 300; rw [cut_size]; omega)
theorem shortP_fit : ∀ (d : Nat) (t : Tree), Fit t → Fit (shortP d t)
  | 0, t, h => Fit.mk _ h.name h.kind (by have := shortP_data 0 t; omega) (by show ([] : List Tree).length ≤ _; simp) (fun k hk => by cases hk)
  | d + 1, t, h => Fit.mk _ h.name h.kind (by have := shortP_data (d + 1) t; omega) (by show ((t.f4.take 20).map (shortP d)).length ≤ _; simp; omega) (fun k hk => by
      obtain ⟨x, hx, rfl⟩ := List.mem_map.1 hk
      exact shortP_fit d x (h.kid x (List.mem_of_mem_take hx)))
theorem sizes_le (B : Nat) : ∀ (ks : List Tree), (∀ x ∈ ks, sizeN x + sizeB x ≤ B) → sizeNs ks + sizeBs ks ≤ ks.length * B
  | [], _ => by simp [sizeNs, sizeBs]
  | k :: r, h => by
    have h1 := h k (by simp)
    have h2 := sizes_le B r (fun x hx => h x (by simp [hx]))
    simp only [sizeNs, sizeBs, List.length_cons, Nat.succ_mul]
    omega
theorem depthP_pos (t : Tree) : 1 ≤ depthP t := by
  rw [depthP_eq]; split <;> omega
theorem shortP_size : ∀ (m d : Nat) (t : Tree), mayP (shortP d t) = true → depthP (shortP d t) ≤ m → sizeN (shortP d t) + sizeB (shortP d t) ≤ 301 * 21 ^ m
  | 0, d, t, _, h => by have := depthP_pos (shortP d t); omega
  | m + 1, 0, t, hm, h => by
    have h1 := shortP_data 0 t
    have e : (shortP 0 t).f4 = [] := rfl
    have hp : 1 ≤ 21 ^ (m + 1) := Nat.pow_pos (by decide)
    rw [sizeN_eq, sizeB_eq, e]
    simp only [sizeNs, sizeBs]
    omega
  | m + 1, d + 1, t, hm, h => by
    have h1 := shortP_data (d + 1) t
    have hk : ∀ x ∈ (shortP (d + 1) t).f4, sizeN x + sizeB x ≤ 301 * 21 ^ m := by
      intro x hx
      have h2 := depth_kid _ hm x hx
      have h3 := (mayP_kids _ hm).2 x hx
      obtain ⟨y, hy, rfl⟩ := List.mem_map.1 (show x ∈ (t.f4.take 20).map (shortP d) from hx)
      exact shortP_size m d y h3 (by omega)
    have h4 := sizes_le _ _ hk
    have h5 : (shortP (d + 1) t).f4.length ≤ 20 := by show ((t.f4.take 20).map (shortP d)).length ≤ 20; simp; omega
    have h6 : (shortP (d + 1) t).f4.length * (301 * 21 ^ m) ≤ 20 * (301 * 21 ^ m) := Nat.mul_le_mul_right _ h5
    have hp : 1 ≤ 21 ^ m := Nat.pow_pos (by decide)
    rw [sizeN_eq, sizeB_eq, Nat.pow_succ]
    omega
theorem shortP_sized (d : Nat) (t : Tree) : Sized (shortP d t) := by
  intro hd hm
  have h := shortP_size 12 d t hm hd
  have : 301 * 21 ^ 12 < 4611686018427387904 := by decide
  omega
theorem short_loop (d : Nat) (hd : d ≤ 14) (t : Tree) (hl : t.f4.length ≤ 1954687338212) (dt : ByteArray)
    (ih : ∀ x ∈ t.f4, Ev (fun k => whisklaw09_short.f k x.f0 x.f1 x.f2 x.f3 x.f4 (d : Int)) ((shortP d x).f0, (shortP d x).f1, (shortP d x).f2, (shortP d x).f3, (shortP d x).f4)) :
    ∀ (n i : Nat) (acc : List Tree), 20 - i = n → i ≤ 20 → acc.length ≤ i → Ev (fun k => whisklaw09_short.l0 k ((d + 1 : Nat) : Int) acc (i : Int) t.f0 t.f1 t.f2 dt t.f4) (t.f0, t.f1, t.f2, dt, acc ++ ((t.f4.take 20).drop i).map (shortP d))
  | 0, i, acc, hn, hi, ha => by
    refine Ev.succ ((Ev.const _).congr (fun k => ?_) rfl)
    simp only [whisklaw09_short.l0]
    rw [List.drop_of_length_le (by simp; omega)]
    by_cases h1 : (i : Int) < (t.f4.length : Int)
    · rw [if_pos h1, if_neg (by omega)]; simp
    · rw [if_neg h1]; simp
  | n + 1, i, acc, hn, hi, ha => by
    by_cases h1 : i < t.f4.length
    · have h2 : i < (t.f4.take 20).length := by simp; omega
      have e1 : ((t.f4.take 20).drop i).map (shortP d) = shortP d t.f4[i] :: ((t.f4.take 20).drop (i + 1)).map (shortP d) := by
        rw [List.drop_eq_getElem_cons h2, List.map_cons, List.getElem_take]
      refine Ev.succ (Ev.congr ((ih t.f4[i] (List.getElem_mem h1)).bind (g := fun k bt => whisklaw09_short.l0 k ((d + 1 : Nat) : Int) (acc ++ [(⟨bt.1, bt.2.1, bt.2.2.1, bt.2.2.2.1, bt.2.2.2.2⟩ : Tree)]) ((i + 1 : Nat) : Int) t.f0 t.f1 t.f2 dt t.f4) ((short_loop d hd t hl dt ih n (i + 1) (acc ++ [shortP d t.f4[i]]) (by omega) (by omega) (by simp; omega)).congr (fun k => by generalize shortP d t.f4[i] = q; cases q; rfl) rfl)) (fun k => ?_) ?_)
      · simp only [whisklaw09_short.l0]
        rw [if_pos (by omega), if_pos (by omega), if_pos (by omega), if_pos (by omega), rd_at t.f4 i h1, wrap64_id ((d + 1 : Nat) - 1 : Int) (by omega) (by omega), wrap64_id ((i : Int) + 1) (by omega) (by omega), show (((d + 1 : Nat) : Int) - 1) = (d : Int) by omega]
        simp only [show acc.length < 1954687338268 by omega, if_true]
        rfl
      · rw [e1]; simp
    · refine Ev.succ ((Ev.const _).congr (fun k => ?_) rfl)
      simp only [whisklaw09_short.l0]
      rw [if_neg (by omega), List.drop_of_length_le (by simp; omega)]
      simp
theorem mn_cut (n : Nat) : mn (n : Int) 300 = ((min n 300 : Nat) : Int) := by
  unfold mn; split <;> omega
theorem short_ev : ∀ (d : Nat) (t : Tree), d ≤ 14 → Fit t → Ev (fun k => whisklaw09_short.f k t.f0 t.f1 t.f2 t.f3 t.f4 (d : Int)) ((shortP d t).f0, (shortP d t).f1, (shortP d t).f2, (shortP d t).f3, (shortP d t).f4)
  | 0, t, hd, hf => by
    refine Ev.succ (Ev.succ ((Ev.const _).congr (fun k => ?_) rfl))
    simp only [whisklaw09_short.f, mn_cut]
    rw [if_pos (by omega), if_pos (by omega)]
    simp only [whisklaw09_short.l0]
    by_cases h1 : (0 : Int) < (t.f4.length : Int)
    · rw [if_pos h1, if_pos (by decide), if_neg (by decide)]; rfl
    · rw [if_neg h1]; rfl
  | d + 1, t, hd, hf => by
    refine Ev.succ (Ev.congr (short_loop d (by omega) t hf.kids (t.f3.extract 0 (min t.f3.size 300)) (fun x hx => short_ev d x (by omega) (hf.kid x hx)) 20 0 [] (by omega) (by omega) (by simp)) (fun k => ?_) ?_)
    · simp only [whisklaw09_short.f, mn_cut]
      rw [if_pos (by omega), if_pos (by omega)]
      rfl
    · rfl
end Go.Proofs.Ytnnpfahlfmeakaa
namespace Go.Proofs.Ytnnpfahlfmeakaa
open Go.Proofs.Ytnnpfahlfmeakaa.PB Go.Proofs.YtnnpfahlfmeakaaW.PrintWords
set_option linter.unusedVariables false
set_option linter.unusedSimpArgs false
theorem numR_len {l r : List UInt8} {n : Nat} (h : numR l = some (n, r)) : r.length + 1 ≤ l.length := by
  unfold numR at h
  split at h
  · cases h
  · rename_i h0
    injection h with h
    injection h with h1 h2
    have hle := rowFrom_le (l.headD 0).toNat 0 l
    subst h2
    rw [List.length_drop]
    have : l ≠ [] := by intro e; subst e; exact h0 rfl
    have : 0 < l.length := by cases l with | nil => contradiction | cons _ _ => simp
    unfold rowLen at h0 ⊢
    omega
theorem textR_len {l t r : List UInt8} (h : textR l = some (t, r)) : t.length + r.length + 1 ≤ l.length := by
  unfold textR at h
  cases hn : numR l with
  | none => rw [hn] at h; cases h
  | some p =>
    obtain ⟨n, q⟩ := p
    have := numR_len hn
    rw [hn] at h
    simp only at h
    split at h
    · injection h with h; injection h with h1 h2; subst h1; subst h2; simp; omega
    · split at h
      · injection h with h; injection h with h1 h2; subst h1; subst h2; simp; omega
      · cases h
theorem str_size (l : List UInt8) : (str l).size = l.length := by simp [str, ByteArray.size]
def FitF (f : List UInt8 → Option (Tree × List UInt8)) : Prop := ∀ l t r, l.length ≤ 140737488351232 → f l = some (t, r) → Fit t ∧ r.length + sizeN t + sizeB t ≤ l.length
theorem kidsR_fit {f : List UInt8 → Option (Tree × List UInt8)} (hf : FitF f) : ∀ (k : Nat) (l : List UInt8) (ks : List Tree) (r : List UInt8), l.length ≤ 140737488351232 → kidsR f k l = some (ks, r) → (∀ x ∈ ks, Fit x) ∧ ks.length = k ∧ r.length + sizeNs ks + sizeBs ks ≤ l.length
  | 0, l, ks, r, hl, h => by
    simp only [kidsR] at h
    injection h with h; injection h with h1 h2; subst h1; subst h2
    exact ⟨fun x hx => (by cases hx), rfl, by simp [sizeNs, sizeBs]⟩
  | k + 1, l, ks, r, hl, h => by
    rw [kidsR_succ] at h
    obtain ⟨⟨nm, l1⟩, ht, h⟩ := Option.bind_eq_some_iff.1 h
    obtain ⟨⟨t, l2⟩, hn, h⟩ := Option.bind_eq_some_iff.1 h
    obtain ⟨⟨ts, l3⟩, hk, h⟩ := Option.bind_eq_some_iff.1 h
    injection h with h; injection h with h1 h2; subst h1; subst h2
    have a1 := textR_len ht
    dsimp only at hn hk
    obtain ⟨a2, a3⟩ := hf l1 t l2 (by omega) hn
    obtain ⟨a4, a5, a6⟩ := kidsR_fit hf k l2 ts l3 (by omega) hk
    have e1 : sizeN ⟨str nm, t.f1, t.f2, t.f3, t.f4⟩ = sizeN t := by rw [sizeN_eq, sizeN_eq]
    have e2 : sizeB ⟨str nm, t.f1, t.f2, t.f3, t.f4⟩ = sizeB t := by rw [sizeB_eq, sizeB_eq]
    refine ⟨fun x hx => ?_, by simp [a5], by simp only [sizeNs, sizeBs, e1, e2]; omega⟩
    rcases List.mem_cons.1 hx with rfl | hx
    · exact Fit.mk _ (by show (str nm).size ≤ _; rw [str_size]; omega) a2.kind a2.data a2.kids a2.kid
    · exact a4 x hx
theorem nodeR_fit : ∀ (m : Nat), FitF (nodeR m) := by
  have key : ∀ (f : Option (List UInt8 → Option (Tree × List UInt8))), (∀ g, f = some g → FitF g) → FitF (nodeH f) := by
    intro f hf l t r hl h
    unfold nodeH at h
    obtain ⟨⟨kd, l1⟩, hn, h⟩ := Option.bind_eq_some_iff.1 h
    have a0 := numR_len hn
    dsimp only at h
    split at h
    · obtain ⟨⟨e, l2⟩, he, h⟩ := Option.bind_eq_some_iff.1 h
      have a1 := numR_len he
      dsimp only at h
      split at h
      · obtain ⟨⟨d, l3⟩, hd, h⟩ := Option.bind_eq_some_iff.1 h
        have a2 := textR_len hd
        injection h with h; injection h with h1 h2; subst h1; subst h2
        refine ⟨Fit.mk _ (Nat.zero_le 140737488351232) (by dsimp only; constructor <;> decide) (by show (str d).size ≤ _; rw [str_size]; omega) (by simp) (fun k hk => by cases hk), ?_⟩
        simp only [sizeN, sizeB, sizeNs, sizeBs, str_size]; omega
      · cases h
    · split at h
      · obtain ⟨⟨d, l3⟩, hd, h⟩ := Option.bind_eq_some_iff.1 h
        have a2 := textR_len hd
        injection h with h; injection h with h1 h2; subst h1; subst h2
        refine ⟨Fit.mk _ (Nat.zero_le 140737488351232) (by dsimp only; constructor <;> decide) (by show (str d).size ≤ _; rw [str_size]; omega) (by simp) (fun k hk => by cases hk), ?_⟩
        simp only [sizeN, sizeB, sizeNs, sizeBs, str_size]; omega
      · split at h
        · obtain ⟨⟨ks, l3⟩, hd, h⟩ := Option.bind_eq_some_iff.1 h
          injection h with h; injection h with h1 h2; subst h1; subst h2
          unfold dirH at hd
          obtain ⟨⟨k, l2⟩, hk, hd⟩ := Option.bind_eq_some_iff.1 hd
          have a1 := numR_len hk
          cases f with
          | none => cases hd
          | some g =>
            dsimp only at hd
            split at hd
            · obtain ⟨b1, b2, b3⟩ := kidsR_fit (hf g rfl) k l2 ks l3 (by omega) hd
              refine ⟨Fit.mk _ (Nat.zero_le 140737488351232) (by dsimp only; constructor <;> decide) (Nat.zero_le 140737488351232) (by show ks.length ≤ _; omega) b1, ?_⟩
              simp only [sizeN, sizeB]
              have : (⟨#[]⟩ : ByteArray).size = 0 := rfl
              omega
            · cases hd
        · cases h
  intro m
  induction m with
  | zero => exact key none (fun g hg => by cases hg)
  | succ m ih => exact key (some (nodeR m)) (fun g hg => by injection hg with hg; subst hg; exact ih)
end Go.Proofs.Ytnnpfahlfmeakaa

import Derived.Deep.RegionHeld3
import Derived.Outline
import Derived.Test.YtalljcjignaafaaDoorQTreeKnown11
import Derived.Test.YtalljcjignaafaaDoorQTreeKnown21
import Derived.Test.YtalljcjignaafaaDoorQTreeKnown22
namespace Go.Proofs.YtalljcjignaafaaDoor.PB
open Go Go.RowKit Go.Proofs.YtalljcjignaafaaDoor Go.Proofs.YtalljcjignaafaaDoorW.PrintWords Go.Proofs.YtalljcjignaafaaDoorW.PrintLast Go.Proofs.YtalljcjignaafaaDoorW.PrintMore
set_option linter.unusedVariables false
set_option linter.unusedSimpArgs false
theorem each_C (t : Tree) (hf : Fit t) (hl : (eachP t).length ≤ 8796093022200) (A : Option Addr) (c : Nat) (w : World) (hC : Kd.C k24 w A t.f4.length t.f4) (hc : t.f4.length ≤ c) :
    Calls Tryd.prog 10 #[.agg #[.string t.f0, .int .i64 t.f1, .bool t.f2, .string t.f3, .slice A t.f4.length c]] w fun e w' => ∃ Av cv, e = .returned (.slice Av (eachP t).length cv) ∧ (Kd.C Kd.string w' Av (eachP t).length (eachP t) ∧ (eachP t).length ≤ cv) ∧ Below w.heap.size w w' := by
  cases t
  refine (tree_Each.calls _ _ _ _ A c _ _ w hC hc (if_pos ⟨hf, hl⟩)).mono ?_
  rintro e w' ⟨v, rfl, hr, hb⟩
  obtain ⟨Av, cv, rfl, h1, h2⟩ := Kd.R_reads hr
  exact ⟨Av, cv, rfl, ⟨h2, h1⟩, hb⟩
end Go.Proofs.YtalljcjignaafaaDoor.PB
namespace Go.Proofs.YtalljcjignaafaaDoor.PB
open Go Go.RowKit Go.Proofs.YtalljcjignaafaaDoor Go.Proofs.YtalljcjignaafaaDoorW.PrintWords Go.Proofs.YtalljcjignaafaaDoorW.PrintLast
set_option linter.unusedVariables false
set_option linter.unusedSimpArgs false
def repB (b : UInt8) (n : Nat) : ByteArray := ⟨(Lib.repeatL [b] n).toArray⟩
theorem repB_size (b : UInt8) (n : Nat) : (repB b n).size = n := by
  have : ∀ n, (Lib.repeatL [b] n).length = n := by
    intro n
    induction n with
    | zero => rfl
    | succ n ih =>
      simp only [Lib.repeatL, List.length_append, List.length_singleton] at ih ⊢
      omega
  show (Lib.repeatL [b] n).toArray.size = n
  rw [List.size_toArray, this]
theorem rep_calls (b : UInt8) (n : Nat) (hn : n ≤ 200000) (w : World) : Calls Tryd.prog 16 #[.string ⟨#[b]⟩, .int .i64 (n : Int)] w fun e w' => e = .returned (.string (repB b n)) ∧ Below w.heap.size w w' :=
  Tryd.strings_Repeat ⟨#[b]⟩ n w (by omega) (by show 1 * n ≤ _; omega)
abbrev lf (a d : ByteArray) : Tree := ⟨a, 1, false, d, []⟩
abbrev LN : ByteArray := repB 110 56
abbrev LNn : ByteArray := LN ++ ⟨#[110]⟩
abbrev dr (l : List Tree) : Tree := ⟨⟨#[]⟩, 2, false, ⟨#[]⟩, l⟩
abbrev nXx : Tree := ⟨⟨#[120]⟩, 0, false, ⟨#[]⟩, []⟩
abbrev nDx : Tree := ⟨⟨#[100]⟩, 2, false, ⟨#[]⟩, [nXx]⟩
def bads : List Tree := [⟨⟨#[]⟩, 0, false, ⟨#[]⟩, []⟩, ⟨⟨#[]⟩, 4, false, ⟨#[]⟩, []⟩, ⟨⟨#[]⟩, -1, false, ⟨#[]⟩, []⟩, ⟨⟨#[]⟩, 1, false, ⟨#[]⟩, [lf ⟨#[97]⟩ ⟨#[]⟩]⟩, ⟨⟨#[]⟩, 2, true, ⟨#[]⟩, []⟩, ⟨⟨#[]⟩, 2, false, ⟨#[120]⟩, []⟩, ⟨⟨#[]⟩, 3, false, ⟨#[]⟩, []⟩, ⟨⟨#[]⟩, 3, true, ⟨#[97]⟩, []⟩, ⟨⟨#[]⟩, 3, false, ⟨#[97, 0]⟩, []⟩, ⟨⟨#[]⟩, 3, false, repB 108 256, []⟩,
  dr [lf ⟨#[]⟩ ⟨#[]⟩], dr [lf ⟨#[46]⟩ ⟨#[]⟩], dr [lf ⟨#[46, 46]⟩ ⟨#[]⟩], dr [lf ⟨#[97, 47, 98]⟩ ⟨#[]⟩], dr [lf ⟨#[97, 0]⟩ ⟨#[]⟩], dr [lf LNn ⟨#[]⟩], dr [lf ⟨#[97]⟩ ⟨#[]⟩, lf ⟨#[97]⟩ ⟨#[]⟩], dr [nDx], ⟨⟨#[120]⟩, 2, false, ⟨#[]⟩, []⟩]
def goods : List Tree := [lf ⟨#[]⟩ ⟨#[]⟩, lf ⟨#[]⟩ ⟨#[0]⟩, ⟨⟨#[]⟩, 1, true, ⟨#[]⟩, []⟩, ⟨⟨#[]⟩, 3, false, repB 108 255, []⟩, dr [], dr [lf ⟨#[46, 46, 46]⟩ ⟨#[]⟩, lf LN ⟨#[]⟩, lf ⟨#[255]⟩ ⟨#[]⟩]]
mutual
def fitB : Tree → Bool
  | ⟨n, k, _, d, ks⟩ => decide (n.size ≤ 200000) && decide (-10 ≤ k) && decide (k ≤ 10) && decide (d.size ≤ 200000) && decide (ks.length ≤ 20) && fitBs ks
def fitBs : List Tree → Bool
  | [] => true
  | k :: r => fitB k && fitBs r
end
mutual
theorem fitB_fit : ∀ t : Tree, fitB t = true → Fit t
  | ⟨n, k, e, d, ks⟩, h => by
    simp only [fitB, Bool.and_eq_true, decide_eq_true_eq] at h
    obtain ⟨⟨⟨⟨⟨h0, h1⟩, h2⟩, h3⟩, h4⟩, h5⟩ := h
    exact Fit.mk _ (Nat.le_trans h0 (by decide)) ⟨by show (-9223372036854775808 : Int) ≤ k; omega, by show k ≤ 9223372036854775807; omega⟩ (Nat.le_trans h3 (by decide)) (Nat.le_trans h4 (by decide)) (fitBs_fit ks h5)
theorem fitBs_fit : ∀ ks : List Tree, fitBs ks = true → ∀ x ∈ ks, Fit x
  | [], _, x, hx => by cases hx
  | k :: r, h, x, hx => by
    simp only [fitBs, Bool.and_eq_true] at h
    have h1 := fitB_fit k h.1
    have h2 := fitBs_fit r h.2
    rcases List.mem_cons.1 hx with hx | hx
    · rw [hx]; exact h1
    · exact h2 x hx
end
theorem bads_ok : ∀ x ∈ bads, Fit x ∧ Sized x ∧ checkP x = 2 := by
  have h : bads.all (fun x => fitB x && decide (sizeN x + sizeB x < 4611686018427387904) && decide (checkP x = 2)) = true := by decide +kernel
  intro x hx
  have := List.all_eq_true.1 h x hx
  simp only [Bool.and_eq_true, decide_eq_true_eq] at this
  exact ⟨fitB_fit x this.1.1, fun _ _ => this.1.2, this.2⟩
theorem goods_ok : ∀ x ∈ goods, Fit x ∧ Sized x ∧ checkP x = 0 := by
  have h : goods.all (fun x => fitB x && decide (sizeN x + sizeB x < 4611686018427387904) && decide (checkP x = 0)) = true := by decide +kernel
  intro x hx
  have := List.all_eq_true.1 h x hx
  simp only [Bool.and_eq_true, decide_eq_true_eq] at this
  exact ⟨fitB_fit x this.1.1, fun _ _ => this.1.2, this.2⟩
/-- Directories in one another. -/
def chP : Nat → Tree
  | 0 => dr []
  | n + 1 => dr [⟨⟨#[100]⟩, 2, false, ⟨#[]⟩, (chP n).f4⟩]
theorem ch_eq (n : Nat) : chP n = dr (chP n).f4 := by cases n <;> rfl
theorem ch_ok : ∀ n, n ≤ 20 → fitB (chP n) = true ∧ depthP (chP n) = n + 1 := by
  have h : (List.range 21).all (fun n => fitB (chP n) && decide (depthP (chP n) = n + 1)) = true := by decide +kernel
  intro n hn
  have := List.all_eq_true.1 h n (List.mem_range.2 (by omega))
  simpa using this
theorem ch_sized (n : Nat) (hn : n ≤ 20) : Sized (chP n) := by
  have h : (List.range 21).all (fun n => decide (sizeN (chP n) + sizeB (chP n) < 4611686018427387904)) = true := by decide +kernel
  have := List.all_eq_true.1 h n (List.mem_range.2 (by omega))
  exact fun _ _ => by simpa using this
theorem deepSize_calls (t : Tree) (hf : Fit t) (hd : 12 < depthP t) (A : Option Addr) (c : Nat) (w : World) (hC : Kd.C k24 w A t.f4.length t.f4) (hc : t.f4.length ≤ c) :
    Calls Tryd.prog 11 #[.agg #[.string t.f0, .int .i64 t.f1, .bool t.f2, .string t.f3, .slice A t.f4.length c]] w fun e w' => e = .returned (.tuple #[.int .i64 0, .int .i64 0]) ∧ Below w.heap.size w w' := by
  obtain ⟨k, hk⟩ := tooDeep_ev t hf
  have h := hk k (Nat.le_refl _)
  rw [decide_eq_true hd] at h
  dsimp only at h
  refine tree_Size.calls k t.f0 t.f1 t.f2 t.f3 A c t.f4 0 0 w hC hc ?_
  unfold tree_Size.f
  rw [h, Option.bind_some, if_pos rfl]
theorem big_check (n : Nat) (hn : n ≤ 200000) : checkP (lf ⟨#[]⟩ (repB 120 n)) = if n ≤ 100000 then 0 else 3 := by
  have h1 : depthP (lf ⟨#[]⟩ (repB 120 n)) = 1 := by simp [depthP]
  have h2 : mayP (lf ⟨#[]⟩ (repB 120 n)) = true := by simp [mayP]
  have h3 : sizeN (lf ⟨#[]⟩ (repB 120 n)) = 1 := by simp [sizeN, sizeNs]
  have h4 : sizeB (lf ⟨#[]⟩ (repB 120 n)) = n := by simp only [sizeB, sizeBs, repB_size]; omega
  unfold checkP
  rw [h1, h2, h3, h4, if_neg (by decide), if_pos ⟨rfl, rfl⟩]
  by_cases h : n ≤ 100000
  · rw [if_pos h, if_neg (by omega)]
  · rw [if_neg h, if_pos (by omega)]
theorem big_calls (n : Nat) (hn : n ≤ 200000) (w : World) : Calls Tryd.prog 9 #[.agg #[.string ⟨#[]⟩, .int .i64 1, .bool false, .string (repB 120 n), .slice none 0 0]] w fun e w' => e = .returned (.int .i64 (if n ≤ 100000 then 0 else 3)) ∧ Below w.heap.size w w' := by
  have hs := repB_size 120 n
  have h := chk_calls (lf ⟨#[]⟩ (repB 120 n)) (leaf_fit6 _ _ _ _ (by decide) (by decide) (by omega)) (fun _ _ => by simp only [sizeN, sizeNs, sizeB, sizeBs, hs]; omega) none 0 w (Kd.C_nil _ _) (Nat.le_refl 0)
  rwa [big_check n hn] at h
theorem big3 (w : World) : Calls Tryd.prog 9 #[.agg #[.string ⟨#[]⟩, .int .i64 1, .bool false, .string (repB 120 100001), .slice none 0 0]] w fun e w' => e = .returned (.int .i64 3) ∧ Below w.heap.size w w' := big_calls 100001 (by decide) w
theorem big0 (w : World) : Calls Tryd.prog 9 #[.agg #[.string ⟨#[]⟩, .int .i64 1, .bool false, .string (repB 120 100000), .slice none 0 0]] w fun e w' => e = .returned (.int .i64 0) ∧ Below w.heap.size w w' := big_calls 100000 (by decide) w
theorem ch_fit (n : Nat) (hn : n ≤ 20) : Fit (dr (chP n).f4) := by
  rw [← ch_eq n]
  exact fitB_fit _ (ch_ok n hn).1
theorem ch_deep (n : Nat) (hn : n ≤ 20) (v : Int) (hv : ((min 14 (n + 1) : Nat) : Int) = v) (A : Option Addr) (c : Nat) (w : World) (hC : Kd.C k24 w A (chP n).f4.length (chP n).f4) (hc : (chP n).f4.length ≤ c) :
    Calls Tryd.prog 13 #[.agg #[.string ⟨#[]⟩, .int .i64 2, .bool false, .string ⟨#[]⟩, .slice A (chP n).f4.length c]] w fun e w' => e = .returned (.int .i64 v) ∧ Below w.heap.size w w' := by
  have h := deep_calls (dr (chP n).f4) (ch_fit n hn) A c w hC hc
  rw [show depthP (dr (chP n).f4) = n + 1 by rw [← ch_eq n]; exact (ch_ok n hn).2, hv] at h
  exact h
theorem ch_chk (n : Nat) (hn : n ≤ 20) (v : Int) (hv : checkP (chP n) = v) (A : Option Addr) (c : Nat) (w : World) (hC : Kd.C k24 w A (chP n).f4.length (chP n).f4) (hc : (chP n).f4.length ≤ c) :
    Calls Tryd.prog 9 #[.agg #[.string ⟨#[]⟩, .int .i64 2, .bool false, .string ⟨#[]⟩, .slice A (chP n).f4.length c]] w fun e w' => e = .returned (.int .i64 v) ∧ Below w.heap.size w w' := by
  have h := chk_calls (dr (chP n).f4) (ch_fit n hn) (by rw [← ch_eq n]; exact ch_sized n hn) A c w hC hc
  rw [show checkP (dr (chP n).f4) = v by rw [← ch_eq n]; exact hv] at h
  exact h
theorem ch_size (n : Nat) (hn : n ≤ 20) (h12 : 12 ≤ n) (A : Option Addr) (c : Nat) (w : World) (hC : Kd.C k24 w A (chP n).f4.length (chP n).f4) (hc : (chP n).f4.length ≤ c) :
    Calls Tryd.prog 11 #[.agg #[.string ⟨#[]⟩, .int .i64 2, .bool false, .string ⟨#[]⟩, .slice A (chP n).f4.length c]] w fun e w' => e = .returned (.tuple #[.int .i64 0, .int .i64 0]) ∧ Below w.heap.size w w' :=
  deepSize_calls (dr (chP n).f4) (ch_fit n hn) (by rw [← ch_eq n, (ch_ok n hn).2]; omega) A c w hC hc
theorem ch_each (n : Nat) (hn : n ≤ 20) (h12 : 12 ≤ n) (A : Option Addr) (c : Nat) (w : World) (hC : Kd.C k24 w A (chP n).f4.length (chP n).f4) (hc : (chP n).f4.length ≤ c) :
    Calls Tryd.prog 10 #[.agg #[.string ⟨#[]⟩, .int .i64 2, .bool false, .string ⟨#[]⟩, .slice A (chP n).f4.length c]] w fun e w' => ∃ Av cv, e = .returned (.slice Av 0 cv) ∧ Below w.heap.size w w' := by
  have he : eachP (dr (chP n).f4) = [] := by
    unfold eachP
    rw [if_pos (Or.inl (by rw [← ch_eq n, (ch_ok n hn).2]; omega))]
  have h := each_C (dr (chP n).f4) (ch_fit n hn) (by rw [he]; decide) A c w hC hc
  rw [he] at h
  exact h.mono fun e w' ⟨Av, cv, h1, h2, h3⟩ => ⟨Av, cv, h1, h3⟩
theorem ch_same (n : Nat) (hn : n ≤ 20) (hs : sameP (chP n) (chP n) = false) (A : Option Addr) (c : Nat) (w : World) (hC : Kd.C k24 w A (chP n).f4.length (chP n).f4) (hc : (chP n).f4.length ≤ c) :
    Calls Tryd.prog 15 #[.agg #[.string ⟨#[]⟩, .int .i64 2, .bool false, .string ⟨#[]⟩, .slice A (chP n).f4.length c], .agg #[.string ⟨#[]⟩, .int .i64 2, .bool false, .string ⟨#[]⟩, .slice A (chP n).f4.length c]] w fun e w' => e = .returned (.bool false) ∧ Below w.heap.size w w' := by
  have h := same_any (dr (chP n).f4) (ch_fit n hn) (dr (chP n).f4) A c A c w (ch_fit n hn) hC hc hC hc
  rw [show sameP (dr (chP n).f4) (dr (chP n).f4) = false by rw [← ch_eq n]; exact hs] at h
  exact h
abbrev nAa : Tree := ⟨⟨#[97]⟩, 2, false, ⟨#[]⟩, []⟩
theorem same_aa (A B : Option Addr) (w : World) (hA : Kd.C k24 w A 1 [nAa]) (hB : Kd.C k24 w B 1 [nAa]) :
    Calls Tryd.prog 15 #[.agg #[.string ⟨#[]⟩, .int .i64 2, .bool false, .string ⟨#[]⟩, .slice A 1 1], .agg #[.string ⟨#[]⟩, .int .i64 2, .bool false, .string ⟨#[]⟩, .slice B 1 1]] w fun e w' => e = .returned (.bool true) ∧ Below w.heap.size w w' := by
  have hf : Fit (dr [nAa]) := fitB_fit _ (by decide +kernel)
  have h := same_any (dr [nAa]) hf (dr [nAa]) A 1 B 1 w hf hA (Nat.le_refl 1) hB (Nat.le_refl 1)
  rwa [show sameP (dr [nAa]) (dr [nAa]) = true by decide +kernel] at h
theorem each_leaf (w : World) : Calls Tryd.prog 10 #[.agg #[.string ⟨#[]⟩, .int .i64 1, .bool false, .string ⟨#[120]⟩, .slice none 0 0]] w fun e w' => ∃ Av cv, e = .returned (.slice Av 0 cv) ∧ Below w.heap.size w w' := by
  have he : eachP (lf ⟨#[]⟩ ⟨#[120]⟩) = [] := by kernel_rfl
  have h := each_C (lf ⟨#[]⟩ ⟨#[120]⟩) (leaf_fit6 _ _ _ _ (by decide) (by decide) (by decide)) (by rw [he]; decide) none 0 w (Kd.C_nil _ _) (Nat.le_refl 0)
  rw [he] at h
  exact h.mono fun e w' ⟨Av, cv, h1, h2, h3⟩ => ⟨Av, cv, h1, h3⟩
theorem texts_nil (A : Option Addr) (c : Nat) (w : World) : Calls Tryd.prog 20 #[.slice A 0 c, .slice none 0 0] w fun e w' => e = .returned (.bool true) ∧ Below w.heap.size w w' :=
  texts_calls [] [] (by decide) A c none 0 w ⟨rfl, by decide, fun h => absurd h (by decide)⟩ (Nat.zero_le c) (Kd.C_nil _ _) (Nat.le_refl 0)
theorem c_G2 {w : World} {b : Nat} {A : Addr} (h : w.heap[b]? = some (.cells #[.string ⟨#[97]⟩, .int .i64 2, .bool false, .string ⟨#[]⟩, .slice (some A) 0 0] 24 (0, 0))) : Kd.C k24 w (some ⟨b, 0, none⟩) 1 [nAa] :=
  C_block (T := 24) (cs := [.string ⟨#[97]⟩, .int .i64 2, .bool false, .string ⟨#[]⟩, .slice (some A) 0 0]) h (Reps.c5 (k24_mk w nAa (Nat.le_refl 0) ⟨rfl, by decide, fun h => absurd h (by decide)⟩) (Reps.none _ _)) (by decide)
end Go.Proofs.YtalljcjignaafaaDoor.PB

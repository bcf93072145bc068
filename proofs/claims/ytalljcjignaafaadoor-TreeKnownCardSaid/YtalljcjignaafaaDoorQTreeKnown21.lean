import Derived.Deep.RegionHeld3
import Derived.Test.YtalljcjignaafaaDoorQTreeKnown10
import Derived.Test.YtalljcjignaafaaDoorQTreeKnown15
import Derived.Test.YtalljcjignaafaaDoorQTreeKnown18
import Derived.Test.YtalljcjignaafaaDoorQTreeKnown20
namespace Go.Proofs.YtalljcjignaafaaDoor.PB
open Go Go.RowKit Go.Proofs.YtalljcjignaafaaDoor Go.Proofs.YtalljcjignaafaaDoorW.PrintWords Go.Proofs.YtalljcjignaafaaDoorW.PrintLast Go.Proofs.YtalljcjignaafaaDoorW.PrintMore
set_option linter.unusedVariables false
set_option linter.unusedSimpArgs false
theorem add_blk (b n : Nat) : (⟨b, 0, none⟩ : Addr).add n = ⟨b, n, none⟩ := by
  unfold Addr.add
  split <;> simp_all
theorem C_block {α : Type} {d : Kd α} {w : World} {b T : Nat} {cs : List Value} {xs : List α} (hb : w.heap[b]? = some (.cells cs.toArray T (0, 0))) (h : Reps (d.K w) d.sz xs cs) (hm : xs.length ≤ 9223372036854775807) : d.C w (some ⟨b, 0, none⟩) xs.length xs := by
  refine ⟨rfl, hm, fun _ => ⟨⟨b, 0, none⟩, rfl, fun j p hj => ⟨_, d.K_len (h.2 j p hj), h.2 j p hj, fun i u hu => ?_⟩⟩⟩
  rw [List.getElem?_take] at hu
  split at hu
  · rw [List.getElem?_drop] at hu
    rw [add_blk]
    simp [World.cell?, hb, hu]
  · cases hu
theorem chk_calls (t : Tree) (hf : Fit t) (hz : Sized t) (A : Option Addr) (c : Nat) (w : World) (hC : Kd.C k24 w A t.f4.length t.f4) (hc : t.f4.length ≤ c) :
    Calls Tryd.prog 9 #[.agg #[.string t.f0, .int .i64 t.f1, .bool t.f2, .string t.f3, .slice A t.f4.length c]] w fun e w' => e = .returned (.int .i64 (checkP t)) ∧ Below w.heap.size w w' := by
  obtain ⟨k, hk⟩ := check_ev t hf hz
  exact tree_Check.calls k t.f0 t.f1 t.f2 t.f3 A c t.f4 _ w hC hc (hk k (Nat.le_refl _))
theorem size_calls (t : Tree) (hf : Fit t) (hm : mayP t = true) (hd : depthP t ≤ 12) (hz : sizeN t + sizeB t < 4611686018427387904) (A : Option Addr) (c : Nat) (w : World) (hC : Kd.C k24 w A t.f4.length t.f4) (hc : t.f4.length ≤ c) :
    Calls Tryd.prog 11 #[.agg #[.string t.f0, .int .i64 t.f1, .bool t.f2, .string t.f3, .slice A t.f4.length c]] w fun e w' => e = .returned (.tuple #[.int .i64 (sizeN t : Nat), .int .i64 (sizeB t : Nat)]) ∧ Below w.heap.size w w' := by
  obtain ⟨k, hk⟩ := Size_ev t hf hm hd hz
  exact tree_Size.calls k t.f0 t.f1 t.f2 t.f3 A c t.f4 _ _ w hC hc (hk k (Nat.le_refl _))
theorem deep_calls (t : Tree) (hf : Fit t) (A : Option Addr) (c : Nat) (w : World) (hC : Kd.C k24 w A t.f4.length t.f4) (hc : t.f4.length ≤ c) :
    Calls Tryd.prog 13 #[.agg #[.string t.f0, .int .i64 t.f1, .bool t.f2, .string t.f3, .slice A t.f4.length c]] w fun e w' => e = .returned (.int .i64 (min 14 (depthP t) : Nat)) ∧ Below w.heap.size w w' := by
  obtain ⟨k, hk⟩ := deep_ev 14 t hf (by omega) (by omega)
  have h := hk k (Nat.le_refl _)
  rw [deepP_depth 14 t (by omega)] at h
  dsimp only at h
  refine tree_Deep.calls k t.f0 t.f1 t.f2 t.f3 A c t.f4 _ w hC hc ?_
  unfold tree_Deep.f
  rw [show (14 : Int) = ((14 : Nat) : Int) from rfl, h]
  rfl
/-- Two lists of texts, alike. -/
def textsEq (a b : List ByteArray) : Bool := (a.map ByteArray.toList) == (b.map ByteArray.toList)
theorem texts_loop (a b : List ByteArray) (hl : a.length = b.length) (hm : a.length ≤ 9223372036854775806) :
    ∀ (n i : Nat), i + n = a.length → Ev (fun k => whiskref06_Texts.l0 k a b (i : Int)) (textsEq (a.drop i) (b.drop i))
  | 0, i, hi => by
    refine Ev.succ ((Ev.const true).congr (fun k => ?_) ?_)
    · rw [whiskref06_Texts.l0, if_neg (by omega)]
    · rw [List.drop_of_length_le (by omega), List.drop_of_length_le (by omega)]
      rfl
  | n + 1, i, hi => by
    have h1 : i < a.length := by omega
    have h2 : i < b.length := by omega
    have e1 : rdOf ByteArray.empty a (i : Int) = a[i] := by unfold rdOf; rw [Int.toNat_natCast, List.getD_eq_getElem?_getD, List.getElem?_eq_getElem h1]; rfl
    have e2 : rdOf ByteArray.empty b (i : Int) = b[i] := by unfold rdOf; rw [Int.toNat_natCast, List.getD_eq_getElem?_getD, List.getElem?_eq_getElem h2]; rfl
    have e3 : textsEq (a.drop i) (b.drop i) = (decide (a[i].toList = b[i].toList) && textsEq (a.drop (i + 1)) (b.drop (i + 1))) := by
      rw [List.drop_eq_getElem_cons h1, List.drop_eq_getElem_cons h2]
      unfold textsEq
      rw [List.map_cons, List.map_cons, Bool.eq_iff_iff]
      simp
    by_cases he : a[i].toList = b[i].toList
    · refine Ev.succ ((texts_loop a b hl hm n (i + 1) (by omega)).congr (fun k => ?_) ?_)
      · rw [whiskref06_Texts.l0, if_pos (by omega), if_pos (by omega), if_pos (by omega), e1, e2, if_pos he, wrap64_id ((i : Int) + 1) (by omega) (by omega)]
        rfl
      · rw [e3, decide_eq_true he, Bool.true_and]
    · refine Ev.succ ((Ev.const false).congr (fun k => ?_) ?_)
      · rw [whiskref06_Texts.l0, if_pos (by omega), if_pos (by omega), if_pos (by omega), e1, e2, if_neg he]
      · rw [e3, decide_eq_false he, Bool.false_and]
theorem textsEq_len (a b : List ByteArray) (h : a.length ≠ b.length) : textsEq a b = false := by
  unfold textsEq
  rw [beq_eq_false_iff_ne]
  intro e
  exact h (by simpa using congrArg List.length e)
theorem texts_calls (a b : List ByteArray) (hm : a.length ≤ 9223372036854775806) (A : Option Addr) (c : Nat) (B : Option Addr) (d : Nat) (w : World) (hA : Kd.C Kd.string w A a.length a) (hc : a.length ≤ c) (hB : Kd.C Kd.string w B b.length b) (hd : b.length ≤ d) :
    Calls Tryd.prog 20 #[.slice A a.length c, .slice B b.length d] w fun e w' => e = .returned (.bool (textsEq a b)) ∧ Below w.heap.size w w' := by
  have hev : Ev (fun k => whiskref06_Texts.f k a b) (textsEq a b) := by
    by_cases hl : a.length = b.length
    · refine (texts_loop a b hl hm a.length 0 (by omega)).congr (fun k => ?_) (by rw [List.drop_zero, List.drop_zero])
      unfold whiskref06_Texts.f
      rw [if_pos (by omega)]
      rfl
    · refine (Ev.const false).congr (fun k => ?_) (textsEq_len a b hl).symm
      unfold whiskref06_Texts.f
      rw [if_neg (by omega)]
  obtain ⟨k, hk⟩ := hev
  exact (whiskref06_Texts.calls k A c a B d b _ w hA hc hB hd (hk k (Nat.le_refl _))).mono fun e w' ⟨h1, h2⟩ => ⟨h1, h2.below⟩
end Go.Proofs.YtalljcjignaafaaDoor.PB
namespace Go.Proofs.YtalljcjignaafaaDoor.PB
open Go Go.RowKit Go.Proofs.YtalljcjignaafaaDoor Go.Proofs.YtalljcjignaafaaDoorW.PrintWords Go.Proofs.YtalljcjignaafaaDoorW.PrintLast Go.Proofs.YtalljcjignaafaaDoorW.PrintMore
set_option linter.unusedVariables false
set_option linter.unusedSimpArgs false
abbrev nA : Tree := ⟨⟨#[97]⟩, 1, false, ⟨#[104, 105]⟩, []⟩
abbrev nL : Tree := ⟨⟨#[108]⟩, 3, false, ⟨#[46, 46, 47, 97]⟩, []⟩
abbrev nD : Tree := ⟨⟨#[100]⟩, 2, false, ⟨#[]⟩, [nL]⟩
abbrev nT : Tree := ⟨⟨#[]⟩, 2, false, ⟨#[]⟩, [nA, nD]⟩
theorem mk_leaf (w : World) (a d : ByteArray) (k : Int) (x : Bool) : (k24).K w ⟨a, k, x, d, []⟩ [.string a, .int .i64 k, .bool x, .string d, .slice none 0 0] :=
  k24_mk w ⟨a, k, x, d, []⟩ (Nat.le_refl 0) (Kd.C_nil _ _)
theorem leaf_fit6 (a : ByteArray) (k : Int) (e : Bool) (d : ByteArray) (ha : a.size ≤ 140737488351232) (hk : -9223372036854775808 ≤ k ∧ k ≤ 9223372036854775807) (hd : d.size ≤ 140737488351232) : Fit ⟨a, k, e, d, []⟩ := Fit.mk _ ha hk hd (Nat.zero_le 1954687338212) (fun k hk => by cases hk)
theorem dir_fit6 (a : ByteArray) (k : Int) (e : Bool) (d : ByteArray) (l : List Tree) (ha : a.size ≤ 140737488351232) (hk : -9223372036854775808 ≤ k ∧ k ≤ 9223372036854775807) (hd : d.size ≤ 140737488351232) (hl : l.length ≤ 1954687338212) (h : ∀ x ∈ l, Fit x) : Fit ⟨a, k, e, d, l⟩ := Fit.mk _ ha hk hd hl h
theorem nA_fit : Fit nA := leaf_fit6 _ _ _ _ (by decide) (by decide) (by decide)
theorem nL_fit : Fit nL := leaf_fit6 _ _ _ _ (by decide) (by decide) (by decide)
theorem nD_fit : Fit nD := dir_fit6 _ _ _ _ _ (by decide) (by decide) (by decide) (by decide) (fun x hx => by
  obtain rfl := List.mem_singleton.1 hx
  exact nL_fit)
theorem nT_fit : Fit nT := dir_fit6 _ _ _ _ _ (by decide) (by decide) (by decide) (by decide) (fun x hx => by
  rcases List.mem_cons.1 hx with rfl | hx
  · exact nA_fit
  · obtain rfl := List.mem_singleton.1 hx
    exact nD_fit)
theorem find_yes (t y : Tree) (hf : Fit t) (path : ByteArray) (hp : path.size ≤ 4611686018427387904) (h : findR t path = some y) (A : Option Addr) (c : Nat) (w : World) (hC : Kd.C k24 w A t.f4.length t.f4) (hc : t.f4.length ≤ c) :
    Calls Tryd.prog 8 #[.agg #[.string t.f0, .int .i64 t.f1, .bool t.f2, .string t.f3, .slice A t.f4.length c], .string path] w fun e w' => ∃ A c, e = .returned (.tuple #[.agg #[.string y.f0, .int .i64 y.f1, .bool y.f2, .string y.f3, .slice A y.f4.length c], .bool true]) ∧ (Kd.C k24 w A y.f4.length y.f4 ∧ y.f4.length ≤ c) ∧ Below w.heap.size w w' := by
  refine (find_any t hf path hp A c w hC hc).mono ?_
  rintro e w' ⟨y', A', c', rfl, hy, h1, h2, h3⟩
  rw [h] at hy
  obtain rfl : y' = y := hy
  rw [h]
  exact ⟨A', c', rfl, ⟨h1, h2⟩, h3⟩
theorem find_no (t : Tree) (hf : Fit t) (path : ByteArray) (hp : path.size ≤ 4611686018427387904) (h : findR t path = none) (A : Option Addr) (c : Nat) (w : World) (hC : Kd.C k24 w A t.f4.length t.f4) (hc : t.f4.length ≤ c) :
    Calls Tryd.prog 8 #[.agg #[.string t.f0, .int .i64 t.f1, .bool t.f2, .string t.f3, .slice A t.f4.length c], .string path] w fun e w' => ∃ A c, e = .returned (.tuple #[.agg #[.string ⟨#[]⟩, .int .i64 0, .bool false, .string ⟨#[]⟩, .slice A 0 c], .bool false]) ∧ Below w.heap.size w w' := by
  refine (find_any t hf path hp A c w hC hc).mono ?_
  rintro e w' ⟨y', A', c', rfl, hy, h1, h2, h3⟩
  rw [h] at hy
  obtain rfl : y' = z24 := hy
  rw [h]
  exact ⟨A', c', rfl, h3⟩
theorem size_nT (A : Option Addr) (c : Nat) (w : World) (hC : Kd.C k24 w A 2 [nA, nD]) (hc : 2 ≤ c) :
    Calls Tryd.prog 11 #[.agg #[.string ⟨#[]⟩, .int .i64 2, .bool false, .string ⟨#[]⟩, .slice A 2 c]] w fun e w' => e = .returned (.tuple #[.int .i64 4, .int .i64 6]) ∧ Below w.heap.size w w' :=
  size_calls nT nT_fit (by decide +kernel) (by decide +kernel) (by decide +kernel) A c w hC hc
theorem nT_sized : Sized nT := fun _ _ => by decide +kernel
theorem chk_nT (A : Option Addr) (c : Nat) (w : World) (hC : Kd.C k24 w A 2 [nA, nD]) (hc : 2 ≤ c) :
    Calls Tryd.prog 9 #[.agg #[.string ⟨#[]⟩, .int .i64 2, .bool false, .string ⟨#[]⟩, .slice A 2 c]] w fun e w' => e = .returned (.int .i64 0) ∧ Below w.heap.size w w' := by
  have h := chk_calls nT nT_fit nT_sized A c w hC hc
  rwa [show checkP nT = 0 by decide +kernel] at h
abbrev nX : Tree := ⟨⟨#[120]⟩, 1, false, ⟨#[]⟩, []⟩
abbrev nB : Tree := ⟨⟨#[98]⟩, 1, false, ⟨#[]⟩, []⟩
abbrev nE : Tree := ⟨⟨#[97]⟩, 1, false, ⟨#[]⟩, []⟩
abbrev nBE : Tree := ⟨⟨#[]⟩, 2, false, ⟨#[]⟩, [nB, nE]⟩
theorem nBE_fit : Fit nBE := dir_fit6 _ _ _ _ _ (by decide) (by decide) (by decide) (by decide) (fun x hx => by
  rcases List.mem_cons.1 hx with rfl | hx
  · exact leaf_fit6 _ _ _ _ (by decide) (by decide) (by decide)
  · obtain rfl := List.mem_singleton.1 hx
    exact leaf_fit6 _ _ _ _ (by decide) (by decide) (by decide))
theorem chk_nX (w : World) : Calls Tryd.prog 9 #[.agg #[.string ⟨#[120]⟩, .int .i64 1, .bool false, .string ⟨#[]⟩, .slice none 0 0]] w fun e w' => e = .returned (.int .i64 2) ∧ Below w.heap.size w w' := by
  have h := chk_calls nX (leaf_fit6 _ _ _ _ (by decide) (by decide) (by decide)) (fun _ _ => by decide +kernel) none 0 w (Kd.C_nil _ _) (Nat.le_refl 0)
  rwa [show checkP nX = 2 by decide +kernel] at h
theorem chk_nBE (A : Option Addr) (w : World) (hC : Kd.C k24 w A 2 [nB, nE]) : Calls Tryd.prog 9 #[.agg #[.string ⟨#[]⟩, .int .i64 2, .bool false, .string ⟨#[]⟩, .slice A 2 2]] w fun e w' => e = .returned (.int .i64 2) ∧ Below w.heap.size w w' := by
  have h := chk_calls nBE nBE_fit (fun _ _ => by decide +kernel) A 2 w hC (Nat.le_refl 2)
  rwa [show checkP nBE = 2 by decide +kernel] at h
theorem deep_nT (A : Option Addr) (c : Nat) (w : World) (hC : Kd.C k24 w A 2 [nA, nD]) (hc : 2 ≤ c) :
    Calls Tryd.prog 13 #[.agg #[.string ⟨#[]⟩, .int .i64 2, .bool false, .string ⟨#[]⟩, .slice A 2 c]] w fun e w' => e = .returned (.int .i64 3) ∧ Below w.heap.size w w' := by
  have h := deep_calls nT nT_fit A c w hC hc
  rwa [show min 14 (depthP nT) = 3 by decide +kernel] at h
abbrev L3 : List ByteArray := [⟨#[97]⟩, ⟨#[100]⟩, ⟨#[100, 47, 108]⟩]
theorem each_nT (A : Option Addr) (c : Nat) (w : World) (hC : Kd.C k24 w A 2 [nA, nD]) (hc : 2 ≤ c) :
    Calls Tryd.prog 10 #[.agg #[.string ⟨#[]⟩, .int .i64 2, .bool false, .string ⟨#[]⟩, .slice A 2 c]] w fun e w' => ∃ Av cv, e = .returned (.slice Av 3 cv) ∧ (Kd.C Kd.string w' Av 3 L3 ∧ 3 ≤ cv) ∧ Below w.heap.size w w' := by
  have e3 : eachP nT = L3 := by kernel_rfl
  have hl : (eachP nT).length ≤ 8796093022200 := by rw [e3]; decide
  refine (tree_Each.calls ⟨#[]⟩ 2 false ⟨#[]⟩ A c [nA, nD] (eachP nT) w hC hc (if_pos ⟨nT_fit, hl⟩)).mono ?_
  rintro e w' ⟨v, rfl, hr, hb⟩
  rw [e3] at hr
  obtain ⟨Av, cv, rfl, h1, h2⟩ := Kd.R_reads hr
  exact ⟨Av, cv, rfl, ⟨h2, h1⟩, hb⟩
theorem texts3 (A B : Option Addr) (c d : Nat) (w : World) (hA : Kd.C Kd.string w A 3 L3) (hc : 3 ≤ c) (hB : Kd.C Kd.string w B 3 L3) (hd : 3 ≤ d) :
    Calls Tryd.prog 20 #[.slice A 3 c, .slice B 3 d] w fun e w' => e = .returned (.bool true) ∧ Below w.heap.size w w' :=
by
  have h := texts_calls L3 L3 (by decide) A c B d w hA hc hB hd
  rwa [show textsEq L3 L3 = true by decide +kernel] at h
theorem c_L3 {w : World} {b : Nat} (h : w.heap[b]? = some (.cells #[.string ⟨#[97]⟩, .string ⟨#[100]⟩, .string ⟨#[100, 47, 108]⟩] 9 (0, 0))) : Kd.C Kd.string w (some ⟨b, 0, none⟩) 3 L3 :=
  C_block (T := 9) (cs := [.string ⟨#[97]⟩, .string ⟨#[100]⟩, .string ⟨#[100, 47, 108]⟩]) h (Reps.one rfl (Reps.one rfl (Reps.one rfl (Reps.none _ _)))) (by decide)
theorem c_BE {w : World} {b : Nat} (h : w.heap[b]? = some (.cells #[.string ⟨#[98]⟩, .int .i64 1, .bool false, .string ⟨#[]⟩, .slice none 0 0, .string ⟨#[97]⟩, .int .i64 1, .bool false, .string ⟨#[]⟩, .slice none 0 0] 24 (0, 0))) : Kd.C k24 w (some ⟨b, 0, none⟩) 2 [nB, nE] :=
  C_block (T := 24) (cs := [.string ⟨#[98]⟩, .int .i64 1, .bool false, .string ⟨#[]⟩, .slice none 0 0, .string ⟨#[97]⟩, .int .i64 1, .bool false, .string ⟨#[]⟩, .slice none 0 0]) h (Reps.c5 (mk_leaf w _ _ _ _) (Reps.c5 (mk_leaf w _ _ _ _) (Reps.none _ _))) (by decide)
theorem same_nL (A : Option Addr) (c : Nat) (w : World) (hA : Kd.C k24 w A 0 []) :
    Calls Tryd.prog 15 #[.agg #[.string ⟨#[108]⟩, .int .i64 3, .bool false, .string ⟨#[46, 46, 47, 97]⟩, .slice A 0 c], .agg #[.string ⟨#[108]⟩, .int .i64 3, .bool false, .string ⟨#[46, 46, 47, 97]⟩, .slice none 0 0]] w fun e w' => e = .returned (.bool true) ∧ Below w.heap.size w w' := by
  have h := same_any nL nL_fit nL A c none 0 w nL_fit hA (Nat.zero_le c) (Kd.C_nil _ _) (Nat.le_refl 0)
  rwa [show sameP nL nL = true by decide +kernel] at h
theorem same_nT (A B : Option Addr) (c d : Nat) (w : World) (hA : Kd.C k24 w A 2 [nA, nD]) (hc : 2 ≤ c) (hB : Kd.C k24 w B 2 [nA, nD]) (hd : 2 ≤ d) :
    Calls Tryd.prog 15 #[.agg #[.string ⟨#[]⟩, .int .i64 2, .bool false, .string ⟨#[]⟩, .slice A 2 c], .agg #[.string ⟨#[]⟩, .int .i64 2, .bool false, .string ⟨#[]⟩, .slice B 2 d]] w fun e w' => e = .returned (.bool true) ∧ Below w.heap.size w w' := by
  have h := same_any nT nT_fit nT A c B d w nT_fit hA hc hB hd
  rwa [show sameP nT nT = true by decide +kernel] at h
theorem cells15 {w W : World} {b3 b4 b5 b2 : Nat} {AL AT : Option Addr} {cL cT : Nat} (hT : w.heap[b5]? = some (nodeCells nT AT cT)) (hN : w.heap[b3]? = some (nodeCells nT (some ⟨b2, 0, none⟩) 2)) (hL : w.heap[b4]? = some (nodeCells nL AL cL)) (hb : Below w.heap.size w W) :
    W.cell? ⟨b3, 0, none⟩ = some (.string ⟨#[]⟩) ∧ W.cell? ⟨b3, 1, none⟩ = some (.int .i64 2) ∧ W.cell? ⟨b3, 2, none⟩ = some (.bool false) ∧ W.cell? ⟨b3, 3, none⟩ = some (.string ⟨#[]⟩) ∧ W.cell? ⟨b3, 4, none⟩ = some (.slice (some ⟨b2, 0, none⟩) 2 2) ∧
    W.cell? ⟨b4, 0, none⟩ = some (.string ⟨#[108]⟩) ∧ W.cell? ⟨b4, 1, none⟩ = some (.int .i64 3) ∧ W.cell? ⟨b4, 2, none⟩ = some (.bool false) ∧ W.cell? ⟨b4, 3, none⟩ = some (.string ⟨#[46, 46, 47, 97]⟩) ∧ W.cell? ⟨b4, 4, none⟩ = some (.slice AL 0 cL) ∧
    W.cell? ⟨b5, 0, none⟩ = some (.string ⟨#[]⟩) ∧ W.cell? ⟨b5, 1, none⟩ = some (.int .i64 2) ∧ W.cell? ⟨b5, 2, none⟩ = some (.bool false) ∧ W.cell? ⟨b5, 3, none⟩ = some (.string ⟨#[]⟩) ∧ W.cell? ⟨b5, 4, none⟩ = some (.slice AT 2 cT) := by
  have h3 := blk_below hN hb
  have h4 := blk_below hL hb
  have h5 := blk_below hT hb
  exact ⟨(blk_cell h3 0).trans rfl, (blk_cell h3 1).trans rfl, (blk_cell h3 2).trans rfl, (blk_cell h3 3).trans rfl, (blk_cell h3 4).trans rfl,
    (blk_cell h4 0).trans rfl, (blk_cell h4 1).trans rfl, (blk_cell h4 2).trans rfl, (blk_cell h4 3).trans rfl, (blk_cell h4 4).trans rfl,
    (blk_cell h5 0).trans rfl, (blk_cell h5 1).trans rfl, (blk_cell h5 2).trans rfl, (blk_cell h5 3).trans rfl, (blk_cell h5 4).trans rfl⟩
set_option maxRecDepth 100000 in
set_option maxHeartbeats 8000000 in
theorem works_any (w : World) : Calls Tryd.prog 6 #[] w fun e w' => e = .returned (.bool true) ∧ Below w.heap.size w w' := by
  have hu := Tryd.underlying24
  go_enter Tryd.func6, Tryd.ntmps6
  go_wp2_with fail
  refine (file_x _ _ _).mono ?_
  rintro e wa ⟨rfl, hb⟩
  have BA := Aside0.mk hb
  clear hb
  go_wp2_with fail
  refine (link_x _ _ _).mono ?_
  rintro e wb ⟨rfl, hb⟩
  have BB := Aside0.mk (below_then BA.out BA.out.size hb)
  clear hb
  go_wp2_with fail
  obtain ⟨W1, hW1⟩ : ∃ W1, wb.alloc (.cells #[.string ⟨#[108]⟩, .int .i64 3, .bool false, .string ⟨#[46, 46, 47, 97]⟩, .slice none 0 0] 24) = W1 := ⟨_, rfl⟩
  have C1 := Aside0.mk (show Kd.C k24 W1 (some ⟨wb.heap.size, 0, none⟩) 1 [nL] from C_block (T := 24) (cs := [.string ⟨#[108]⟩, .int .i64 3, .bool false, .string ⟨#[46, 46, 47, 97]⟩, .slice none 0 0]) (by rw [← hW1]; exact heap_alloc_new wb _) (Reps.c5 (mk_leaf W1 _ _ _ _) (Reps.none _ _)) (by decide))
  have B1 := Aside0.mk (show Below w.heap.size w W1 from by rw [← hW1]; exact below_alloc BB.out _)
  rw [hW1]
  clear hW1
  refine (dir_x _ _ _ _ W1).mono ?_
  rintro e wc ⟨rfl, hb⟩
  have C2 := Aside0.mk (Kd.C_below C1.out hb)
  have B2 := Aside0.mk (below_then B1.out B1.out.size hb)
  generalize wb.heap.size = b1 at *
  clear hb C1 B1 BB BA
  go_wp2_with fail
  obtain ⟨W2, hW2⟩ : ∃ W2, wc.alloc (.cells #[.string ⟨#[97]⟩, .int .i64 1, .bool false, .string ⟨#[104, 105]⟩, .slice none 0 0, .string ⟨#[100]⟩, .int .i64 2, .bool false, .string ⟨#[]⟩, .slice (some ⟨b1, 0, none⟩) 1 1] 24) = W2 := ⟨_, rfl⟩
  have hb2 := Aside0.mk (show Below wc.heap.size wc W2 from by rw [← hW2]; exact below_alloc (Below.refl _ _) _)
  have C3 := Aside0.mk (show Kd.C k24 W2 (some ⟨wc.heap.size, 0, none⟩) 2 [nA, nD] from C_block (T := 24) (cs := [.string ⟨#[97]⟩, .int .i64 1, .bool false, .string ⟨#[104, 105]⟩, .slice none 0 0, .string ⟨#[100]⟩, .int .i64 2, .bool false, .string ⟨#[]⟩, .slice (some ⟨b1, 0, none⟩) 1 1]) (by rw [← hW2]; exact heap_alloc_new wc _)
    (Reps.c5 (mk_leaf W2 _ _ _ _) (Reps.c5 (k24_mk W2 nD (c4 := 1) (Nat.le_refl 1) (Kd.C_below C2.out hb2.out)) (Reps.none _ _))) (by decide))
  have B3 := Aside0.mk (below_then B2.out B2.out.size hb2.out)
  rw [hW2]
  clear hW2 hb2 C2 B2
  refine (dir_x _ _ _ _ W2).mono ?_
  rintro e wd ⟨rfl, hb⟩
  have C4 := Aside0.mk (Kd.C_below C3.out hb)
  have B4 := Aside0.mk (below_then B3.out B3.out.size hb)
  generalize wc.heap.size = b2 at *
  clear hb C3 B3
  obtain ⟨W3, hW3⟩ : ∃ W3, wd.alloc (.cells #[.string ⟨#[]⟩, .int .i64 2, .bool false, .string ⟨#[]⟩, .slice (some ⟨b2, 0, none⟩) 2 2] 24) = W3 := ⟨_, rfl⟩
  have hb3 := Aside0.mk (show Below wd.heap.size wd W3 from by rw [← hW3]; exact below_alloc (Below.refl _ _) _)
  have N1 := Aside0.mk (show W3.heap[wd.heap.size]? = some (nodeCells nT (some ⟨b2, 0, none⟩) 2) from by rw [← hW3]; exact heap_alloc_new wd _)
  have C5 := Aside0.mk (Kd.C_below C4.out hb3.out)
  have B5 := Aside0.mk (below_then B4.out B4.out.size hb3.out)
  have z0 := (blk_cell N1.out 0).trans (rfl : _ = some (Value.string ⟨#[]⟩))
  have z1 := (blk_cell N1.out 1).trans (rfl : _ = some (Value.int .i64 2))
  have z2 := (blk_cell N1.out 2).trans (rfl : _ = some (Value.bool false))
  have z3 := (blk_cell N1.out 3).trans (rfl : _ = some (Value.string ⟨#[]⟩))
  have z4 := (blk_cell N1.out 4).trans (rfl : _ = some (Value.slice (some ⟨b2, 0, none⟩) 2 2))
  go_wp2_with fail
  clear hW3 hb3 C4 B4
  generalize wd.heap.size = b3 at *
  refine (size_nT _ _ W3 C5.out (Nat.le_refl 2)).mono ?_
  rintro e W4 ⟨rfl, hb⟩
  have N2 := Aside0.mk (blk_below N1.out hb)
  have C6 := Aside0.mk (Kd.C_below C5.out hb)
  have B6 := Aside0.mk (below_then B5.out B5.out.size hb)
  clear hb z0 z1 z2 z3 z4 N1 C5 B5
  have z0 := (blk_cell N2.out 0).trans (rfl : _ = some (Value.string ⟨#[]⟩))
  have z1 := (blk_cell N2.out 1).trans (rfl : _ = some (Value.int .i64 2))
  have z2 := (blk_cell N2.out 2).trans (rfl : _ = some (Value.bool false))
  have z3 := (blk_cell N2.out 3).trans (rfl : _ = some (Value.string ⟨#[]⟩))
  have z4 := (blk_cell N2.out 4).trans (rfl : _ = some (Value.slice (some ⟨b2, 0, none⟩) 2 2))
  go_wp2_with fail
  refine (find_yes nT nL nT_fit _ (by decide) (by kernel_rfl) _ _ W4 C6.out (Nat.le_refl 2)).mono ?_
  rintro e W5 ⟨AL, cL, rfl, hCL, hb⟩
  have CL := Aside0.mk (show nL.f4.length ≤ cL ∧ Kd.C k24 W5 AL 0 [] from ⟨hCL.2, Kd.C_below hCL.1 hb⟩)
  have N3 := Aside0.mk (blk_below N2.out hb)
  have C7 := Aside0.mk (Kd.C_below C6.out hb)
  have B7 := Aside0.mk (below_then B6.out B6.out.size hb)
  clear hb hCL z0 z1 z2 z3 z4 N2 C6 B6
  obtain ⟨W6, hW6⟩ : ∃ W6, W5.alloc (.cells #[.string ⟨#[108]⟩, .int .i64 3, .bool false, .string ⟨#[46, 46, 47, 97]⟩, .slice AL 0 cL] 24) = W6 := ⟨_, rfl⟩
  have hb6 := Aside0.mk (show Below W5.heap.size W5 W6 from by rw [← hW6]; exact below_alloc (Below.refl _ _) _)
  have L6 := Aside0.mk (show W6.heap[W5.heap.size]? = some (nodeCells nL AL cL) from by rw [← hW6]; exact heap_alloc_new W5 _)
  have N4 := Aside0.mk (blk_below N3.out hb6.out)
  have C8 := Aside0.mk (Kd.C_below C7.out hb6.out)
  have CL8 := Aside0.mk (Kd.C_below CL.out.2 hb6.out)
  have B8 := Aside0.mk (below_then B7.out B7.out.size hb6.out)
  have z0 := (blk_cell N4.out 0).trans (rfl : _ = some (Value.string ⟨#[]⟩))
  have z1 := (blk_cell N4.out 1).trans (rfl : _ = some (Value.int .i64 2))
  have z2 := (blk_cell N4.out 2).trans (rfl : _ = some (Value.bool false))
  have z3 := (blk_cell N4.out 3).trans (rfl : _ = some (Value.string ⟨#[]⟩))
  have z4 := (blk_cell N4.out 4).trans (rfl : _ = some (Value.slice (some ⟨b2, 0, none⟩) 2 2))
  go_wp2_with fail
  clear hW6 hb6 N3 C7 B7 z0 z1 z2 z3 z4 CL
  generalize W5.heap.size = b4 at *
  refine (find_yes nT nT nT_fit ⟨#[]⟩ (by decide) (by kernel_rfl) _ _ W6 C8.out (Nat.le_refl 2)).mono ?_
  rintro e W7 ⟨AT, cT, rfl, hCT, hb⟩
  have CT := Aside0.mk (show 2 ≤ cT ∧ Kd.C k24 W7 AT 2 [nA, nD] from ⟨hCT.2, Kd.C_below hCT.1 hb⟩)
  have N5 := Aside0.mk (blk_below N4.out hb)
  have L7 := Aside0.mk (blk_below L6.out hb)
  have C9 := Aside0.mk (Kd.C_below C8.out hb)
  have CL9 := Aside0.mk (Kd.C_below CL8.out hb)
  have B9 := Aside0.mk (below_then B8.out B8.out.size hb)
  clear hb hCT N4 L6 C8 CL8 B8
  obtain ⟨W8, hW8⟩ : ∃ W8, W7.alloc (.cells #[.string ⟨#[]⟩, .int .i64 2, .bool false, .string ⟨#[]⟩, .slice AT 2 cT] 24) = W8 := ⟨_, rfl⟩
  have hb8 := Aside0.mk (show Below W7.heap.size W7 W8 from by rw [← hW8]; exact below_alloc (Below.refl _ _) _)
  have T8 := Aside0.mk (show W8.heap[W7.heap.size]? = some (nodeCells nT AT cT) from by rw [← hW8]; exact heap_alloc_new W7 _)
  have N6 := Aside0.mk (blk_below N5.out hb8.out)
  have L8 := Aside0.mk (blk_below L7.out hb8.out)
  have C10 := Aside0.mk (Kd.C_below C9.out hb8.out)
  have CL10 := Aside0.mk (Kd.C_below CL9.out hb8.out)
  have CT10 := Aside0.mk (Kd.C_below CT.out.2 hb8.out)
  have CTL := Aside0.mk CT.out.1
  have B10 := Aside0.mk (below_then B9.out B9.out.size hb8.out)
  have z0 := (blk_cell N6.out 0).trans (rfl : _ = some (Value.string ⟨#[]⟩))
  have z1 := (blk_cell N6.out 1).trans (rfl : _ = some (Value.int .i64 2))
  have z2 := (blk_cell N6.out 2).trans (rfl : _ = some (Value.bool false))
  have z3 := (blk_cell N6.out 3).trans (rfl : _ = some (Value.string ⟨#[]⟩))
  have z4 := (blk_cell N6.out 4).trans (rfl : _ = some (Value.slice (some ⟨b2, 0, none⟩) 2 2))
  go_wp2_with fail
  clear hW8 hb8 N5 L7 C9 CL9 B9 CT
  generalize W7.heap.size = b5 at *
  refine (find_no nT nT_fit _ (by decide) (by kernel_rfl) _ _ W8 C10.out (Nat.le_refl 2)).mono ?_
  rintro e W9 ⟨AX, cX, rfl, hb⟩
  obtain ⟨W10, hW10⟩ : ∃ W10, W9.alloc (.cells #[.string ⟨#[]⟩, .int .i64 0, .bool false, .string ⟨#[]⟩, .slice AX 0 cX] 24) = W10 := ⟨_, rfl⟩
  have hb10 := Aside0.mk (show Below W8.heap.size W8 W10 from by rw [← hW10]; exact below_alloc hb _)
  have T11 := Aside0.mk (blk_below T8.out hb10.out)
  have N7 := Aside0.mk (blk_below N6.out hb10.out)
  have L9 := Aside0.mk (blk_below L8.out hb10.out)
  have C11 := Aside0.mk (Kd.C_below C10.out hb10.out)
  have CL11 := Aside0.mk (Kd.C_below CL10.out hb10.out)
  have CT11 := Aside0.mk (Kd.C_below CT10.out hb10.out)
  have B11 := Aside0.mk (below_then B10.out B10.out.size hb10.out)
  clear hb z0 z1 z2 z3 z4 T8 N6 L8 C10 CL10 CT10 B10
  have z0 := (blk_cell N7.out 0).trans (rfl : _ = some (Value.string ⟨#[]⟩))
  have z1 := (blk_cell N7.out 1).trans (rfl : _ = some (Value.int .i64 2))
  have z2 := (blk_cell N7.out 2).trans (rfl : _ = some (Value.bool false))
  have z3 := (blk_cell N7.out 3).trans (rfl : _ = some (Value.string ⟨#[]⟩))
  have z4 := (blk_cell N7.out 4).trans (rfl : _ = some (Value.slice (some ⟨b2, 0, none⟩) 2 2))
  go_wp2_with fail
  clear hW10 hb10
  refine (find_no nT nT_fit _ (by decide) (by kernel_rfl) _ _ W10 C11.out (Nat.le_refl 2)).mono ?_
  rintro e W11 ⟨AY, cY, rfl, hb⟩
  obtain ⟨W12, hW12⟩ : ∃ W12, W11.alloc (.cells #[.string ⟨#[]⟩, .int .i64 0, .bool false, .string ⟨#[]⟩, .slice AY 0 cY] 24) = W12 := ⟨_, rfl⟩
  have hb12 := Aside0.mk (show Below W10.heap.size W10 W12 from by rw [← hW12]; exact below_alloc hb _)
  have T12 := Aside0.mk (blk_below T11.out hb12.out)
  have N8 := Aside0.mk (blk_below N7.out hb12.out)
  have L10 := Aside0.mk (blk_below L9.out hb12.out)
  have C12 := Aside0.mk (Kd.C_below C11.out hb12.out)
  have CL12 := Aside0.mk (Kd.C_below CL11.out hb12.out)
  have CT12 := Aside0.mk (Kd.C_below CT11.out hb12.out)
  have B12 := Aside0.mk (below_then B11.out B11.out.size hb12.out)
  clear hb z0 z1 z2 z3 z4 T11 N7 L9 C11 CL11 CT11 B11
  go_wp2_with fail
  clear hW12 hb12
  have HCHK := Aside0.mk (fun W (h : Below W12.heap.size W12 W) => chk_nT _ _ W (Kd.C_below C12.out h) (Nat.le_refl 2))
  have HDEEP := Aside0.mk (fun W (h : Below W12.heap.size W12 W) => deep_nT _ _ W (Kd.C_below C12.out h) (Nat.le_refl 2))
  have HEACH := Aside0.mk (fun W (h : Below W12.heap.size W12 W) => each_nT _ _ W (Kd.C_below C12.out h) (Nat.le_refl 2))
  have HSL := Aside0.mk (fun W (h : Below W12.heap.size W12 W) => same_nL AL cL W (Kd.C_below CL12.out h))
  have HST := Aside0.mk (fun W (h : Below W12.heap.size W12 W) => same_nT _ _ _ _ W (Kd.C_below CT12.out h) CTL.out (Kd.C_below C12.out h) (Nat.le_refl 2))
  have BX := Aside0.mk (below_drew (Below.refl W12.heap.size W12))
  go_region_held3 (fun W => W.cell? ⟨b3, 0, none⟩ = some (.string ⟨#[]⟩) ∧ W.cell? ⟨b3, 1, none⟩ = some (.int .i64 2) ∧ W.cell? ⟨b3, 2, none⟩ = some (.bool false) ∧ W.cell? ⟨b3, 3, none⟩ = some (.string ⟨#[]⟩) ∧ W.cell? ⟨b3, 4, none⟩ = some (.slice (some ⟨b2, 0, none⟩) 2 2) ∧
    W.cell? ⟨b4, 0, none⟩ = some (.string ⟨#[108]⟩) ∧ W.cell? ⟨b4, 1, none⟩ = some (.int .i64 3) ∧ W.cell? ⟨b4, 2, none⟩ = some (.bool false) ∧ W.cell? ⟨b4, 3, none⟩ = some (.string ⟨#[46, 46, 47, 97]⟩) ∧ W.cell? ⟨b4, 4, none⟩ = some (.slice AL 0 cL) ∧
    W.cell? ⟨b5, 0, none⟩ = some (.string ⟨#[]⟩) ∧ W.cell? ⟨b5, 1, none⟩ = some (.int .i64 2) ∧ W.cell? ⟨b5, 2, none⟩ = some (.bool false) ∧ W.cell? ⟨b5, 3, none⟩ = some (.string ⟨#[]⟩) ∧ W.cell? ⟨b5, 4, none⟩ = some (.slice AT 2 cT))
    (first | exact cells15 T12.out N8.out L10.out BX.out | exact cells15 T12.out N8.out L10.out (below_alloc BX.out _))
    (first | (go_at_call 9; (with_reducible refine (HCHK.out _ ?hb).mono ?_); (case hb => (first | exact BX.out | exact below_alloc BX.out _ | exact below_drew (Below.refl _ _))); rintro e w1 ⟨rfl, hb1⟩; have BX := Aside0.mk (below_then (show Below W12.heap.size W12 _ from by (first | exact BX.out | exact below_alloc BX.out _ | exact below_drew (Below.refl _ _))) (below_size (by (first | exact BX.out | exact below_alloc BX.out _ | exact below_drew (Below.refl _ _)))) hb1); clear hb1) | (go_at_call 9; (with_reducible refine (chk_nX _).mono ?_); rintro e w1 ⟨rfl, hb1⟩; have BX := Aside0.mk (below_then (show Below W12.heap.size W12 _ from by (first | exact BX.out | exact below_alloc BX.out _ | exact below_drew (Below.refl _ _))) (below_size (by (first | exact BX.out | exact below_alloc BX.out _ | exact below_drew (Below.refl _ _)))) hb1); clear hb1) | (go_at_call 9; (with_reducible refine (chk_nBE _ _ CBE.out).mono ?_); rintro e w1 ⟨rfl, hb1⟩; have BX := Aside0.mk (below_then (show Below W12.heap.size W12 _ from by (first | exact BX.out | exact below_alloc BX.out _ | exact below_drew (Below.refl _ _))) (below_size (by (first | exact BX.out | exact below_alloc BX.out _ | exact below_drew (Below.refl _ _)))) hb1); clear hb1) | (go_at_call 13; (with_reducible refine (HDEEP.out _ ?hb).mono ?_); (case hb => (first | exact BX.out | exact below_alloc BX.out _ | exact below_drew (Below.refl _ _))); rintro e w1 ⟨rfl, hb1⟩; have BX := Aside0.mk (below_then (show Below W12.heap.size W12 _ from by (first | exact BX.out | exact below_alloc BX.out _ | exact below_drew (Below.refl _ _))) (below_size (by (first | exact BX.out | exact below_alloc BX.out _ | exact below_drew (Below.refl _ _)))) hb1); clear hb1) | (go_at_call 10; (with_reducible refine (HEACH.out _ ?hb).mono ?_); (case hb => (first | exact BX.out | exact below_alloc BX.out _ | exact below_drew (Below.refl _ _))); rintro e w1 ⟨Av, cv, rfl, hV, hb1⟩; have HV := Aside0.mk hV; (first | (have BLK := Aside0.mk (blk_below (heap_alloc_new _ _) hb1)) | skip); have BX := Aside0.mk (below_then (show Below W12.heap.size W12 _ from by (first | exact BX.out | exact below_alloc BX.out _ | exact below_drew (Below.refl _ _))) (below_size (by (first | exact BX.out | exact below_alloc BX.out _ | exact below_drew (Below.refl _ _)))) hb1); clear hb1 hV) | (go_at_call 20; (with_reducible refine (texts3 _ _ _ _ _ (Kd.C_below HV.out.1 (below_alloc (Below.refl _ _) _)) HV.out.2 (c_L3 (heap_alloc_new _ _)) (Nat.le_refl 3)).mono ?_); rintro e w1 ⟨rfl, hb1⟩; have BX := Aside0.mk (below_then (show Below W12.heap.size W12 _ from by (first | exact BX.out | exact below_alloc BX.out _ | exact below_drew (Below.refl _ _))) (below_size (by (first | exact BX.out | exact below_alloc BX.out _ | exact below_drew (Below.refl _ _)))) hb1); clear hb1) | (go_at_call 20; (with_reducible refine (texts3 _ _ _ _ _ HV.out.1 HV.out.2 (c_L3 BLK.out) (Nat.le_refl 3)).mono ?_); rintro e w1 ⟨rfl, hb1⟩; have BX := Aside0.mk (below_then (show Below W12.heap.size W12 _ from by (first | exact BX.out | exact below_alloc BX.out _ | exact below_drew (Below.refl _ _))) (below_size (by (first | exact BX.out | exact below_alloc BX.out _ | exact below_drew (Below.refl _ _)))) hb1); clear hb1) | (go_at_call 19; (with_reducible refine (link_x _ _ _).mono ?_); rintro e w1 ⟨rfl, hb1⟩; have BX := Aside0.mk (below_then (show Below W12.heap.size W12 _ from by (first | exact BX.out | exact below_alloc BX.out _ | exact below_drew (Below.refl _ _))) (below_size (by (first | exact BX.out | exact below_alloc BX.out _ | exact below_drew (Below.refl _ _)))) hb1); clear hb1) | (go_at_call 15; (with_reducible refine (HSL.out _ ?hb).mono ?_); (case hb => (first | exact BX.out | exact below_alloc BX.out _ | exact below_drew (Below.refl _ _))); rintro e w1 ⟨rfl, hb1⟩; have BX := Aside0.mk (below_then (show Below W12.heap.size W12 _ from by (first | exact BX.out | exact below_alloc BX.out _ | exact below_drew (Below.refl _ _))) (below_size (by (first | exact BX.out | exact below_alloc BX.out _ | exact below_drew (Below.refl _ _)))) hb1); clear hb1) | (go_at_call 15; (with_reducible refine (HST.out _ ?hb).mono ?_); (case hb => (first | exact BX.out | exact below_alloc BX.out _ | exact below_drew (Below.refl _ _))); rintro e w1 ⟨rfl, hb1⟩; have BX := Aside0.mk (below_then (show Below W12.heap.size W12 _ from by (first | exact BX.out | exact below_alloc BX.out _ | exact below_drew (Below.refl _ _))) (below_size (by (first | exact BX.out | exact below_alloc BX.out _ | exact below_drew (Below.refl _ _)))) hb1); clear hb1) | (go_at_call 17; (with_reducible refine (file_x _ _ _).mono ?_); rintro e w1 ⟨rfl, hb1⟩; have BX := Aside0.mk (below_then (show Below W12.heap.size W12 _ from by (first | exact BX.out | exact below_alloc BX.out _ | exact below_drew (Below.refl _ _))) (below_size (by (first | exact BX.out | exact below_alloc BX.out _ | exact below_drew (Below.refl _ _)))) hb1); clear hb1) | (go_at_call 18; (with_reducible refine (dir_x _ _ _ _ _).mono ?_); rintro e w1 ⟨rfl, hb1⟩; have CBE := Aside0.mk (Kd.C_below (c_BE (heap_alloc_new _ _)) hb1); have BX := Aside0.mk (below_then (show Below W12.heap.size W12 _ from by (first | exact BX.out | exact below_alloc BX.out _ | exact below_drew (Below.refl _ _))) (below_size (by (first | exact BX.out | exact below_alloc BX.out _ | exact below_drew (Below.refl _ _)))) hb1); clear hb1))
  all_goals
    clear C12 CL12 CT12 CTL T12 N8 L10 HCHK HDEEP HEACH HSL HST
    go_wp2_with fail
    go_ret
    exact ⟨rfl, below_then B12.out B12.out.size BX.out⟩
end Go.Proofs.YtalljcjignaafaaDoor.PB
namespace Go.Proofs.YtalljcjignaafaaDoor.PB
open Go Go.RowKit Go.Proofs.YtalljcjignaafaaDoor Go.Proofs.YtalljcjignaafaaDoorW.PrintWords Go.Proofs.YtalljcjignaafaaDoorW.PrintLast Go.Proofs.YtalljcjignaafaaDoorW.PrintMore
set_option linter.unusedVariables false
set_option linter.unusedSimpArgs false
end Go.Proofs.YtalljcjignaafaaDoor.PB

import Derived.Lib.SplitLaws
import Derived.Test.YtalljcjignaafaaDoorQTreePaths10
import Derived.Test.YtalljcjignaafaaDoorQTreePaths11
import Derived.Test.YtalljcjignaafaaDoorQTreePaths18
import Derived.Test.YtalljcjignaafaaDoorQTreePaths21
import Derived.Test.YtalljcjignaafaaDoorQTreePaths22
namespace Go.Proofs.YtalljcjignaafaaDoor.PB
open Go Go.RowKit Go.Proofs.YtalljcjignaafaaDoor Go.Proofs.YtalljcjignaafaaDoorW.PrintWords Go.Proofs.YtalljcjignaafaaDoorW.PrintLast
set_option linter.unusedVariables false
set_option linter.unusedSimpArgs false
theorem splitK_list : ∀ (n : Nat) (l : List UInt8), l.length ≤ n → Lib.splitK [47] 0 (Lib.count l [47]) l = splitL l := by
  intro n
  induction n with
  | zero =>
    intro l h
    obtain rfl : l = [] := List.eq_nil_of_length_eq_zero (by omega)
    rfl
  | succ n ih =>
    intro l h
    have hi := Lib.index_one l 47
    by_cases hneg : Lib.indexByte l 47 < 0
    · have h1 : Lib.indexByte l 47 = -1 := by have := Lib.indexByte_ge l 47; omega
      rw [Lib.count_miss (hi.trans h1), splitL_none l (Lib.indexByte_none h1)]
      rfl
    · obtain ⟨o, ho⟩ : ∃ o : Nat, Lib.indexByte l 47 = (o : Int) := ⟨(Lib.indexByte l 47).toNat, by omega⟩
      obtain ⟨h1, h2⟩ := Lib.indexByte_some ho
      have hol : o < l.length := (List.getElem?_eq_some_iff.1 h1).1
      have hg : l[o] = 47 := (List.getElem?_eq_some_iff.1 h1).2
      have e : l = l.take o ++ 47 :: l.drop (o + 1) := by
        rw [← hg, List.getElem_cons_drop, List.take_append_drop]
      rw [Lib.count_hit (i := o) (by simp) (hi.trans ho), Nat.add_comm 1]
      unfold Lib.splitK
      have hm : ¬ (Lib.index l [47] == -1) = true := fun e => by have := beq_iff_eq.1 e; rw [hi, ho] at this; omega
      rw [if_neg hm, hi, ho, Int.toNat_natCast]
      show l.take (o + 0) :: Lib.splitK [47] 0 (Lib.count (l.drop (o + 1)) [47]) (l.drop (o + 1)) = splitL l
      rw [ih _ (by rw [List.length_drop]; omega)]
      conv => rhs; rw [e, splitL_append]
      rw [splitL_none (l.take o) (fun k => by
        by_cases hk : k < o
        · rw [List.getElem?_take_of_lt hk]; exact h2 k hk
        · rw [List.getElem?_eq_none (by rw [List.length_take]; omega)]; simp)]
      rfl
theorem splitB_P (s : ByteArray) : Lib.splitB ⟨#[47]⟩ 0 (Lib.countB s ⟨#[47]⟩) s = splitP s := by
  refine map_list_inj ?_
  rw [splitP_list]
  have := Lib.splitB_data ⟨#[47]⟩ 0 (Lib.countB s ⟨#[47]⟩) s
  exact this.trans (splitK_list _ _ (Nat.le_refl _))
theorem splitP_count (s : ByteArray) : (splitP s).length = Lib.countB s ⟨#[47]⟩ + 1 := by
  rw [← splitB_P]
  exact Lib.splitB_all ⟨#[47]⟩ (by decide) 0 _ s rfl
theorem reps_strings (w : World) : ∀ (ps : List ByteArray), Reps (Kd.string.K w) 1 ps (ps.map Value.string)
  | [] => Reps.none _ _
  | p :: r => Reps.one rfl (reps_strings w r)
theorem split_any (s : ByteArray) (hs : s.size < 4294967281) (w : World) (hm : ∃ m, w.cell? ⟨0, 0, none⟩ = some (.int .i64 m)) :
    Calls Tryd.prog 12 #[.string s, .string ⟨#[47]⟩] w fun e w' => ∃ g, e = .returned (.slice (some ⟨g, 0, none⟩) (splitP s).length (splitP s).length) ∧ Kd.C Kd.string w' (some ⟨g, 0, none⟩) (splitP s).length (splitP s) ∧ Below w.heap.size w w' := by
  obtain ⟨m, hm⟩ := hm
  refine (Tryd.strings_Split s ⟨#[47]⟩ m w hs hm (by decide)).mono ?_
  rintro e w' ⟨rfl, rfl⟩
  rw [splitB_P, splitP_count]
  refine ⟨w.heap.size, rfl, ?_, below_alloc (Below.refl _ w) _⟩
  have hl : (splitP s).length ≤ 9223372036854775807 := by
    have := Lib.countB_le ⟨#[47]⟩ (by decide) s.size s (Nat.le_refl _)
    rw [splitP_count]
    omega
  have := C_block (d := Kd.string) (T := 9) (xs := splitP s) (heap_alloc_new w (.cells ((splitP s).map Value.string).toArray 9)) (reps_strings _ _) hl
  rwa [splitP_count] at this
theorem rises_loop (a b : List ByteArray) (ha : a.length ≤ 9223372036854775806) (hb : b.length ≤ 9223372036854775806) :
    ∀ (n i : Nat), i + n = a.length → i ≤ b.length → Ev (fun k => whisklaw06_rises.l0 k a b (i : Int)) (risesP (a.drop i) (b.drop i) || (decide (i = a.length) && decide (i = b.length) && false))
  | 0, i, hi, hib => by
    refine Ev.succ (Ev.succ ((Ev.const (decide ((a.length : Int) < (b.length : Int)))).congr (fun k => ?_) ?_))
    · rw [whisklaw06_rises.l0, if_neg (by omega), whisklaw06_rises.j1, if_neg (by decide)]
    · rw [List.drop_of_length_le (l := a) (by omega), Bool.and_false, Bool.or_false]
      by_cases h : i = b.length
      · rw [List.drop_of_length_le (by omega), decide_eq_false (by omega)]; rfl
      · rw [List.drop_eq_getElem_cons (show i < b.length by omega), decide_eq_true (by omega)]; rfl
  | n + 1, i, hi, hib => by
    have h1 : i < a.length := by omega
    have e1 : rdOf ByteArray.empty a (i : Int) = a[i] := by unfold rdOf; rw [Int.toNat_natCast, List.getD_eq_getElem?_getD, List.getElem?_eq_getElem h1]; rfl
    by_cases h2 : i < b.length
    · have e2 : rdOf ByteArray.empty b (i : Int) = b[i] := by unfold rdOf; rw [Int.toNat_natCast, List.getD_eq_getElem?_getD, List.getElem?_eq_getElem h2]; rfl
      by_cases he : a[i].toList = b[i].toList
      · refine Ev.succ (Ev.succ ((rises_loop a b ha hb n (i + 1) (by omega) (by omega)).congr (fun k => ?_) ?_))
        · rw [whisklaw06_rises.l0, if_pos (by omega), decide_eq_true (by omega), whisklaw06_rises.j1, if_pos rfl, if_pos (by omega), if_pos (by omega), if_pos (by omega), e1, e2, if_pos he, wrap64_id ((i : Int) + 1) (by omega) (by omega)]
          rfl
        · rw [Bool.and_false, Bool.or_false, Bool.and_false, Bool.or_false, List.drop_eq_getElem_cons h1, List.drop_eq_getElem_cons h2]
          show _ = if _ then _ else _
          rw [if_pos he]
      · refine Ev.succ (Ev.succ ((Ev.const (Op.bytesLess a[i].toList b[i].toList)).congr (fun k => ?_) ?_))
        · rw [whisklaw06_rises.l0, if_pos (by omega), decide_eq_true (by omega), whisklaw06_rises.j1, if_pos rfl, if_pos (by omega), if_pos (by omega), if_pos (by omega), e1, e2, if_neg he]
        · rw [Bool.and_false, Bool.or_false, List.drop_eq_getElem_cons h1, List.drop_eq_getElem_cons h2]
          show _ = if _ then _ else _
          rw [if_neg he]
    · refine Ev.succ (Ev.succ ((Ev.const (decide ((a.length : Int) < (b.length : Int)))).congr (fun k => ?_) ?_))
      · rw [whisklaw06_rises.l0, if_pos (by omega), decide_eq_false (by omega), whisklaw06_rises.j1, if_neg (by decide)]
      · rw [Bool.and_false, Bool.or_false, List.drop_eq_getElem_cons h1, List.drop_of_length_le (l := b) (by omega), decide_eq_false (by omega)]
        rfl
theorem rises_calls (a b : List ByteArray) (ha : a.length ≤ 9223372036854775806) (hb : b.length ≤ 9223372036854775806) (A : Option Addr) (c : Nat) (B : Option Addr) (d : Nat) (w : World) (hA : Kd.C Kd.string w A a.length a) (hc : a.length ≤ c) (hB : Kd.C Kd.string w B b.length b) (hd : b.length ≤ d) :
    Calls Tryd.prog 14 #[.slice A a.length c, .slice B b.length d] w fun e w' => e = .returned (.bool (risesP a b)) ∧ Below w.heap.size w w' := by
  obtain ⟨k, hk⟩ := rises_loop a b ha hb a.length 0 (by omega) (Nat.zero_le _)
  have h := hk k (Nat.le_refl _)
  rw [List.drop_zero, List.drop_zero, Bool.and_false, Bool.or_false] at h
  exact (whisklaw06_rises.calls k A c a B d b _ w hA hc hB hd h).mono fun e w' ⟨h1, h2⟩ => ⟨h1, h2.below⟩
end Go.Proofs.YtalljcjignaafaaDoor.PB
namespace Go.Proofs.YtalljcjignaafaaDoor.PB
open Go Go.RowKit Go.Proofs.YtalljcjignaafaaDoor Go.Proofs.YtalljcjignaafaaDoorW.PrintWords Go.Proofs.YtalljcjignaafaaDoorW.PrintLast
set_option linter.unusedVariables false
set_option linter.unusedSimpArgs false
theorem check6_ok (t : Tree) (h : checkP t = 0) : depthP t ≤ 12 ∧ t.f0.data.toList = [] ∧ mayP t = true ∧ sizeN t ≤ 2000 ∧ sizeB t ≤ 100000 := by
  unfold checkP at h
  split at h
  · cases h
  · split at h
    · rename_i h1 h2
      split at h
      · cases h
      · rename_i h3
        exact ⟨by omega, h2.1, h2.2, by omega, by omega⟩
    · cases h
theorem rel_names (t : Tree) (hf : Fit t) : mayP t = true → ∀ q ∈ relT t, ∀ y ∈ q, nameOk y = true := by
  induction hf with
  | mk t h0 h1 h3 h4 hk ih =>
    intro hm q hq
    rw [relT_eq] at hq
    split at hq
    · obtain ⟨k, hkm, hc⟩ := mem_relK _ _ hq
      rcases may_kids t hm with ⟨-, ho⟩ | he
      · rcases hc with rfl | ⟨q', hq', rfl⟩
        · intro y hy
          obtain rfl := List.mem_singleton.1 hy
          exact ho.name k hkm
        · intro y hy
          rcases List.mem_cons.1 hy with rfl | hy
          · exact ho.name k hkm
          · exact ih k hkm (ho.may k hkm) q' hq' y hy
      · rw [he] at hkm; cases hkm
    · cases hq
theorem splitL_size : ∀ l : List UInt8, ((splitL l).map List.length).sum + (splitL l).length = l.length + 1
  | [] => rfl
  | c :: r => by
    have h := splitL_size r
    have hn := splitL_ne r
    unfold splitL
    split
    · simp only [List.map_cons, List.sum_cons, List.length_nil, List.length_cons]
      omega
    · cases hr : splitL r with
      | nil => exact absurd hr hn
      | cons a t =>
        rw [hr] at h
        simp only [List.headD_cons, List.tail_cons, List.map_cons, List.sum_cons, List.length_cons] at h ⊢
        omega
theorem sum_le (l : List (List UInt8)) (h : ∀ x ∈ l, x.length ≤ 56) : (l.map List.length).sum ≤ 56 * l.length := by
  induction l with
  | nil => simp
  | cons a r ih =>
    have h1 := h a (by simp)
    have h2 := ih (fun x hx => h x (by simp [hx]))
    simp only [List.map_cons, List.sum_cons, List.length_cons]
    omega
theorem name_len (s : ByteArray) (h : nameOk s = true) : s.data.toList.length ≤ 56 := by
  unfold nameOk at h
  simp only [Bool.and_eq_true, decide_eq_true_eq] at h
  exact h.1.1.2
/-- All that a path of Each is. -/
structure PathOk (t : Tree) (q : ByteArray) : Prop where
  ex : ∃ x, findR t q = some x ∧ (splitP q).getLast? = some x.f0
  len : (splitP q).length + 1 ≤ depthP t
  size : q.size ≤ 1000
  pos : 0 < (splitP q).length
theorem path_ok (t : Tree) (hf : Fit t) (hm : mayP t = true) (hd : depthP t ≤ 12) (q : ByteArray) (hq : q ∈ eachP t) : PathOk t q := by
  have hq2 : splitP q ∈ relT t := by
    rw [← each_split t hm hd]
    exact List.mem_map_of_mem hq
  obtain ⟨x, g1, g2, g3, g4⟩ := rel_find t hf hm _ hq2
  have hne : q.toList ≠ [] := by
    intro e
    have e1 : splitP q = [⟨#[]⟩] := by
      refine map_list_inj ?_
      rw [splitP_list, ← tl_eq, e]
      rfl
    have := rel_names t hf hm _ hq2 ⟨#[]⟩ (by rw [e1]; simp)
    revert this
    decide
  refine ⟨⟨x, by rw [findR_ne t q hne]; exact g1, g2⟩, g3, ?_, List.length_pos_iff.2 g4⟩
  have h1 := splitL_size q.data.toList
  rw [← splitP_list] at h1
  have h2 := sum_le ((splitP q).map fun q => q.data.toList) (fun y hy => by
    obtain ⟨z, hz, rfl⟩ := List.mem_map.1 hy
    exact name_len z (rel_names t hf hm _ hq2 z hz))
  rw [List.length_map] at h1 h2
  have h3 : q.data.toList.length = q.size := rfl
  omega
theorem each_len (t : Tree) (hm : mayP t = true) (hd : depthP t ≤ 12) : (eachP t).length + 1 = sizeN t := by
  have h1 := relT_len t hm
  rw [← each_split t hm hd, List.length_map] at h1
  exact h1
theorem each_rises (t : Tree) (hf : Fit t) (hm : mayP t = true) (hd : depthP t ≤ 12) (i : Nat) (h : i + 1 < (eachP t).length) : risesP (splitP (eachP t)[i]) (splitP (eachP t)[i + 1]) = true := by
  have h1 := rel_rises t hf hm
  rw [← each_split t hm hd, List.pairwise_map] at h1
  exact List.pairwise_iff_getElem.1 h1 i (i + 1) (by omega) h (by omega)
theorem lim_sized : ∀ (m : Nat) (t : Tree), Lim t → mayP t = true → depthP t ≤ m → sizeN t + sizeB t ≤ 301 * 7 ^ m
  | 0, t, _, _, h => by
    have : 1 ≤ depthP t := by rw [depthP_eq]; split <;> omega
    omega
  | m + 1, t, hl, hm, h => by
    have h1 := hl.data
    have key : ∀ (B : Nat) (ks : List Tree), (∀ k ∈ ks, sizeN k + sizeB k ≤ B) → sizeNs ks + sizeBs ks ≤ ks.length * B := by
      intro B ks
      induction ks with
      | nil => intro _; simp [sizeNs, sizeBs]
      | cons k r ih =>
        intro hk
        have a1 := hk k (by simp)
        have a2 := ih (fun x hx => hk x (by simp [hx]))
        simp only [sizeNs, sizeBs, List.length_cons, Nat.succ_mul]
        omega
    have h4 := key (301 * 7 ^ m) t.f4 (fun k hk => by
      have h2 := depth_kid _ hm k hk
      rcases may_kids t hm with ⟨-, ho⟩ | he
      · exact lim_sized m k (hl.kid k hk) (ho.may k hk) (by omega)
      · rw [he] at hk; cases hk)
    have h5 := hl.kids
    have h6 : t.f4.length * (301 * 7 ^ m) ≤ 6 * (301 * 7 ^ m) := Nat.mul_le_mul_right _ h5
    have hp : 1 ≤ 7 ^ m := Nat.pow_pos (by decide)
    rw [sizeN_eq, sizeB_eq, Nat.pow_succ]
    omega
theorem lim_ok (t : Tree) (h : Lim t) : Sized t := by
  intro hd hm
  have h1 := lim_sized 12 t h hm hd
  have : 301 * 7 ^ 12 < 4611686018427387904 := by decide
  omega
theorem sameKs6_refl : ∀ (l : List Tree), (∀ x ∈ l, sameP x x = true) → sameKs l l = true
  | [], _ => rfl
  | x :: r, h => by
    simp only [sameKs]
    rw [h x (by simp), sameKs6_refl r (fun y hy => h y (by simp [hy]))]
    rfl
theorem same6_refl (t : Tree) (hf : Fit t) : mayP t = true → depthP t ≤ 12 → sameP t t = true := by
  induction hf with
  | mk t h0 h1 h3 h4 hk ih =>
    intro hm hd
    have hks := sameKs6_refl t.f4 (fun x hx => ih x hx ((mayP_kids t hm).2 x hx) (by have := depth_kid t hm x hx; omega))
    rw [sameP_eq, hks]
    have : ¬ 12 < depthP t := by omega
    simp [this]
/-- The tree that the law takes: small, and without a name. -/
def bareP (t : Tree) : Tree := ⟨⟨#[]⟩, t.f1, t.f2, t.f3, t.f4⟩
theorem bare_fit (t : Tree) (h : Fit t) : Fit (bareP t) := Fit.mk _ (Nat.zero_le _) h.kind h.data h.kids h.kid
theorem bare_lim (t : Tree) (h : Lim t) : Lim (bareP t) := Lim.mk _ (Nat.zero_le _) h.data h.kids h.kid
end Go.Proofs.YtalljcjignaafaaDoor.PB

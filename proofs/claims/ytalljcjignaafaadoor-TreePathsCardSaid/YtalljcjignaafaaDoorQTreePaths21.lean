import Derived.Test.YtalljcjignaafaaDoorQTreePaths9
import Derived.Test.YtalljcjignaafaaDoorQTreePaths19
import Derived.Test.YtalljcjignaafaaDoorQTreePaths20
namespace Go.Proofs.YtalljcjignaafaaDoor.PB
open Go Go.RowKit Go.Proofs.YtalljcjignaafaaDoor Go.Proofs.YtalljcjignaafaaDoorW.PrintWords Go.Proofs.YtalljcjignaafaaDoorW.PrintLast
set_option linter.unusedVariables false
set_option linter.unusedSimpArgs false
theorem less_irrefl : ∀ a : List UInt8, Op.bytesLess a a = false
  | [] => rfl
  | x :: a => by simp [Op.bytesLess, less_irrefl a]
theorem less_trans : ∀ a b c : List UInt8, Op.bytesLess a b = true → Op.bytesLess b c = true → Op.bytesLess a c = true
  | [], [], _, h, _ => by simp [Op.bytesLess] at h
  | [], _ :: _, [], _, h => by simp [Op.bytesLess] at h
  | [], _ :: _, _ :: _, _, _ => by simp [Op.bytesLess]
  | _ :: _, [], _, h, _ => by simp [Op.bytesLess] at h
  | _ :: _, _ :: _, [], _, h => by simp [Op.bytesLess] at h
  | x :: a, y :: b, z :: c, h, k => by
    simp only [Op.bytesLess, Bool.or_eq_true, Bool.and_eq_true, decide_eq_true_eq, beq_iff_eq] at h k ⊢
    rcases h with h | ⟨rfl, h⟩
    · rcases k with k | ⟨rfl, k⟩
      · exact .inl (UInt8.lt_trans h k)
      · exact .inl h
    · rcases k with k | ⟨rfl, k⟩
      · exact .inl k
      · exact .inr ⟨rfl, less_trans a b c h k⟩
mutual
def relT : Tree → List (List ByteArray)
  | ⟨_, kd, _, _, ks⟩ => if kd = 2 then relK ks else []
def relK : List Tree → List (List ByteArray)
  | [] => []
  | k :: r => ([k.f0] :: (relT k).map (k.f0 :: ·)) ++ relK r
end
theorem relT_eq (t : Tree) : relT t = if t.f1 = 2 then relK t.f4 else [] := by cases t; rw [relT]
theorem relK_cons (k : Tree) (r : List Tree) : relK (k :: r) = ([k.f0] :: (relT k).map (k.f0 :: ·)) ++ relK r := by rw [relK]
def risesP : List ByteArray → List ByteArray → Bool
  | [], [] => false
  | [], _ :: _ => true
  | _ :: _, [] => false
  | a :: r, b :: s => if a.toList = b.toList then risesP r s else Op.bytesLess a.toList b.toList
/-- What a node that may be says of its kids. -/
structure KidsOk (ks : List Tree) : Prop where
  name : ∀ k ∈ ks, nameOk k.f0 = true
  may : ∀ k ∈ ks, mayP k = true
  rise : ks.Pairwise fun a b => strLt a.f0 b.f0 = true
theorem kids_ok : ∀ (ks : List Tree) (p : Option ByteArray), mayKids p ks = true → KidsOk ks ∧ ∀ q, p = some q → ∀ k ∈ ks, strLt q k.f0 = true
  | [], p, _ => ⟨⟨fun k hk => (by cases hk), fun k hk => (by cases hk), List.Pairwise.nil⟩, fun q _ k hk => (by cases hk)⟩
  | k :: r, p, h => by
    simp only [mayKids, Bool.and_eq_true] at h
    obtain ⟨⟨⟨h1, h2⟩, h3⟩, h4⟩ := h
    obtain ⟨g1, g2⟩ := kids_ok r (some k.f0) h4
    refine ⟨⟨fun x hx => ?_, fun x hx => ?_, List.Pairwise.cons (fun x hx => g2 k.f0 rfl x hx) g1.rise⟩, fun q hq x hx => ?_⟩
    · rcases List.mem_cons.1 hx with rfl | hx
      · exact h1
      · exact g1.name x hx
    · rcases List.mem_cons.1 hx with rfl | hx
      · exact h2
      · exact g1.may x hx
    · subst hq
      rcases List.mem_cons.1 hx with rfl | hx
      · exact h3
      · exact less_trans _ _ _ h3 (g2 k.f0 rfl x hx)
theorem may_kids (t : Tree) (h : mayP t = true) : (t.f1 = 2 ∧ KidsOk t.f4) ∨ t.f4 = [] := by
  obtain ⟨a, kd, b, c, ks⟩ := t
  simp only [mayP] at h
  split at h
  · right; simpa using h
  · split at h
    · right
      simp only [Bool.and_eq_true] at h
      simpa using h.1.1.1.1
    · split at h
      · rename_i h2
        simp only [Bool.and_eq_true] at h
        exact .inl ⟨h2, (kids_ok ks none h.2).1⟩
      · cases h
theorem KidsOk.tail {k : Tree} {r : List Tree} (h : KidsOk (k :: r)) : KidsOk r := ⟨fun x hx => h.name x (by simp [hx]), fun x hx => h.may x (by simp [hx]), (List.pairwise_cons.1 h.rise).2⟩
theorem relT_len : ∀ t : Tree, mayP t = true → (relT t).length + 1 = sizeN t := by
  have key : ∀ ks : List Tree, (∀ k ∈ ks, (relT k).length + 1 = sizeN k) → (relK ks).length = sizeNs ks := by
    intro ks
    induction ks with
    | nil => intro _; simp [relK, sizeNs]
    | cons k r ih =>
      intro h
      have h1 := h k (by simp)
      have h2 := ih (fun x hx => h x (by simp [hx]))
      rw [relK_cons]
      simp only [List.length_append, List.length_cons, List.length_map, sizeNs]
      omega
  intro t
  induction hs : SizeOf.sizeOf t using Nat.strongRecOn generalizing t with
  | _ n ih =>
    intro hm
    rw [relT_eq, sizeN_eq]
    rcases may_kids t hm with ⟨h2, hk⟩ | h0
    · rw [if_pos h2, key t.f4 (fun k hkm => ih _ (by
        subst hs
        have := List.sizeOf_lt_of_mem hkm
        obtain ⟨a, b, c, d, ks⟩ := t
        simp only at *
        simp
        omega) k rfl (hk.may k hkm))]
      omega
    · rw [h0]
      split <;> simp [relK, sizeNs]
/-- A name has no stroke: its path is itself. -/
theorem name_split (s : ByteArray) (h : nameOk s = true) : splitP s = [s] := by
  refine map_list_inj ?_
  rw [splitP_list]
  unfold nameOk at h
  simp only [Bool.and_eq_true] at h
  refine splitL_none _ (fun k hk => ?_)
  have := List.all_eq_true.1 h.1.1.1.1 47 (List.mem_of_getElem? hk)
  simp [nmByte] at this
theorem name_ne (s : ByteArray) (h : nameOk s = true) : s.toList ≠ [] := by
  unfold nameOk at h
  simp only [Bool.and_eq_true, decide_eq_true_eq] at h
  intro e
  rw [tl_eq] at e
  have : s.data.toList.length = s.size := rfl
  rw [e] at this
  have h2 := h.1.1.1.2
  simp at this
  omega
theorem split_paths : ∀ (t : Tree) (p : ByteArray), mayP t = true → (pathsP t p).map splitP = splitP p :: (relT t).map (splitP p ++ ·) := by
  have key : ∀ (ks : List Tree) (p : ByteArray), (∀ k ∈ ks, nameOk k.f0 = true ∧ ∀ q, (pathsP k q).map splitP = splitP q :: (relT k).map (splitP q ++ ·)) → (pathsK ks p).map splitP = (relK ks).map (splitP p ++ ·) := by
    intro ks p
    induction ks with
    | nil => intro _; simp [pathsK, relK]
    | cons k r ih =>
      intro h
      obtain ⟨h1, h2⟩ := h k (by simp)
      rw [pathsK, List.map_append, ih (fun x hx => h x (by simp [hx])), h2, relK_cons, splitP_join, name_split k.f0 h1]
      simp
  intro t
  induction hs : SizeOf.sizeOf t using Nat.strongRecOn generalizing t with
  | _ n ih =>
    intro p hm
    rw [pathsP_eq, List.map_cons, relT_eq]
    congr 1
    rcases may_kids t hm with ⟨h2, hk⟩ | h0
    · rw [if_pos h2, if_pos h2]
      exact key t.f4 p (fun k hkm => ⟨hk.name k hkm, fun q => ih _ (by
        subst hs
        have := List.sizeOf_lt_of_mem hkm
        obtain ⟨a, b, c, d, ks⟩ := t
        simp only at *
        simp
        omega) k rfl q (hk.may k hkm)⟩)
    · rw [h0]
      split <;> simp [pathsK, relK]
theorem eachK_map (f : Tree → List ByteArray) : ∀ (ks : List Tree), (List.range ks.length).flatMap (fun (j : Nat) => f (rd_T24 ks (j : Int))) = ks.flatMap f := by
  intro ks
  have : (List.range ks.length).map (fun (j : Nat) => rd_T24 ks (j : Int)) = ks := by
    apply List.ext_getElem
    · simp
    · intro i h1 h2
      simp [rd_at ks i h2]
  conv => rhs; rw [← this]
  rw [List.flatMap_map]
theorem each_split (t : Tree) (hm : mayP t = true) (hd : depthP t ≤ 12) : (eachP t).map splitP = relT t := by
  unfold eachP
  rw [relT_eq]
  by_cases h2 : t.f1 = 2
  · rw [if_neg (by omega), if_pos h2]
    unfold eachK
    rw [eachK_map (fun k => pathsP k k.f0)]
    rcases may_kids t hm with ⟨-, hk⟩ | h0
    · generalize t.f4 = ks at hk
      induction ks with
      | nil => simp [relK]
      | cons k r ih =>
        rw [List.flatMap_cons, List.map_append, ih hk.tail, relK_cons, split_paths k k.f0 (hk.may k (by simp)), name_split k.f0 (hk.name k (by simp))]
        simp
    · rw [h0]; simp [relK]
  · rw [if_pos (Or.inr h2), if_neg h2]; rfl
theorem mem_relK : ∀ (ks : List Tree) (q : List ByteArray), q ∈ relK ks → ∃ k ∈ ks, q = [k.f0] ∨ ∃ q' ∈ relT k, q = k.f0 :: q'
  | [], q, h => by simp [relK] at h
  | k :: r, q, h => by
    rw [relK_cons] at h
    rcases List.mem_append.1 h with h | h
    · rcases List.mem_cons.1 h with rfl | h
      · exact ⟨k, by simp, .inl rfl⟩
      · obtain ⟨q', hq, rfl⟩ := List.mem_map.1 h
        exact ⟨k, by simp, .inr ⟨q', hq, rfl⟩⟩
    · obtain ⟨x, hx, hq⟩ := mem_relK r q h
      exact ⟨x, by simp [hx], hq⟩
theorem idx_find : ∀ (ks : List Tree) (n : Nat) (k : Tree), k ∈ ks → (ks.Pairwise fun a b => strLt a.f0 b.f0 = true) → ∃ j, ks[j]? = some k ∧ idxFrom k.f0 ks n = ((n + j : Nat) : Int)
  | x :: r, n, k, hk, hp => by
    have e : idxFrom k.f0 (x :: r) n = if nmEq k.f0 x then (n : Int) else idxFrom k.f0 r (n + 1) := rfl
    obtain ⟨h1, h2⟩ := List.pairwise_cons.1 hp
    by_cases hx : nmEq k.f0 x = true
    · have : x = k := by
        rcases List.mem_cons.1 hk with h | h
        · exact h.symm
        · have h3 : x.f0.toList = k.f0.toList := beq_iff_eq.1 hx
          have h4 := h1 k h
          unfold strLt at h4
          rw [h3, less_irrefl] at h4
          cases h4
      subst this
      exact ⟨0, rfl, by rw [e, if_pos hx]; rfl⟩
    · have hr : k ∈ r := by
        rcases List.mem_cons.1 hk with rfl | h
        · exact absurd (beq_self_eq_true _) hx
        · exact h
      obtain ⟨j, hj, he⟩ := idx_find r (n + 1) k hr h2
      exact ⟨j + 1, hj, by rw [e, if_neg hx, he]; omega⟩
theorem step_kid (t k : Tree) (h2 : t.f1 = 2) (hk : KidsOk t.f4) (hm : k ∈ t.f4) : stepP t k.f0 = some k := by
  obtain ⟨j, hj, he⟩ := idx_find t.f4 0 k hm hk.rise
  obtain ⟨hjl, hjk⟩ := List.getElem?_eq_some_iff.1 hj
  unfold stepP
  rw [if_pos ⟨h2, name_ne _ (hk.name k hm), by omega⟩, he, Nat.zero_add, rd_at t.f4 j hjl, hjk]
theorem rel_find (t : Tree) (hf : Fit t) : mayP t = true → ∀ q ∈ relT t, ∃ x, findP t q = some x ∧ q.getLast? = some x.f0 ∧ q.length + 1 ≤ depthP t ∧ q ≠ [] := by
  induction hf with
  | mk t h0 h1 h3 h4 hk ih =>
    intro hm q hq
    rw [relT_eq] at hq
    split at hq
    · rename_i h2
      obtain ⟨k, hkm, hc⟩ := mem_relK _ _ hq
      rcases may_kids t hm with ⟨-, ho⟩ | he
      · have hs := step_kid t k h2 ho hkm
        have hd := depth_kid t hm k hkm
        have hdp : 1 ≤ depthP k := by rw [depthP_eq]; split <;> omega
        rcases hc with rfl | ⟨q', hq', rfl⟩
        · refine ⟨k, ?_, rfl, by simp only [List.length_singleton]; omega, by simp⟩
          show (stepP t k.f0).bind (fun y => findP y []) = some k
          rw [hs]; rfl
        · obtain ⟨x, g1, g2, g3, g4⟩ := ih k hkm (ho.may k hkm) q' hq'
          refine ⟨x, ?_, ?_, by simp only [List.length_cons]; omega, by simp⟩
          · show (stepP t k.f0).bind (fun y => findP y q') = some x
            rw [hs]; exact g1
          · rw [List.getLast?_cons, g2]; rfl
      · rw [he] at hkm; cases hkm
    · cases hq
theorem rel_rises (t : Tree) (hf : Fit t) : mayP t = true → (relT t).Pairwise fun a b => risesP a b = true := by
  induction hf with
  | mk t h0 h1 h3 h4 hk ih =>
    intro hm
    rw [relT_eq]
    split
    · rcases may_kids t hm with ⟨-, ho⟩ | he
      · have key : ∀ ks : List Tree, (∀ k ∈ ks, k ∈ t.f4) → KidsOk ks → (relK ks).Pairwise fun a b => risesP a b = true := by
          intro ks
          induction ks with
          | nil => intro _ _; rw [relK]; exact List.Pairwise.nil
          | cons k r ihr =>
            intro hs hko
            have hkm := hs k (by simp)
            rw [relK_cons, List.pairwise_append]
            refine ⟨List.Pairwise.cons (fun q hq => ?_) (List.pairwise_map.2 ((ih k hkm (hko.may k (by simp))).imp (fun {a b} hab => ?_))), ihr (fun x hx => hs x (by simp [hx])) hko.tail, fun a ha b hb => ?_⟩
            · obtain ⟨q', hq', rfl⟩ := List.mem_map.1 hq
              obtain ⟨-, -, -, -, hne⟩ := rel_find k (hk k hkm) (hko.may k (by simp)) q' hq'
              cases q' with
              | nil => exact absurd rfl hne
              | cons y s => simp [risesP]
            · simp only [risesP, if_true]; exact hab
            · obtain ⟨x, hx, hxb⟩ := mem_relK _ _ hb
              have hlt : strLt k.f0 x.f0 = true := (List.pairwise_cons.1 hko.rise).1 x hx
              have hne : ¬ k.f0.toList = x.f0.toList := fun e => by
                unfold strLt at hlt
                rw [e, less_irrefl] at hlt
                cases hlt
              have ha' : ∃ s, a = k.f0 :: s := by
                rcases List.mem_cons.1 ha with rfl | ha
                · exact ⟨_, rfl⟩
                · obtain ⟨s, -, rfl⟩ := List.mem_map.1 ha
                  exact ⟨_, rfl⟩
              have hb' : ∃ s, b = x.f0 :: s := by
                rcases hxb with rfl | ⟨s, -, rfl⟩
                · exact ⟨_, rfl⟩
                · exact ⟨_, rfl⟩
              obtain ⟨s1, rfl⟩ := ha'
              obtain ⟨s2, rfl⟩ := hb'
              simp only [risesP, if_neg hne]
              exact hlt
        exact key t.f4 (fun k hk => hk) ho
      · rw [he, relK]; exact List.Pairwise.nil
    · exact List.Pairwise.nil
end Go.Proofs.YtalljcjignaafaaDoor.PB
namespace Go.Proofs.YtalljcjignaafaaDoor.PB
open Go Go.RowKit Go.Proofs.YtalljcjignaafaaDoor Go.Proofs.YtalljcjignaafaaDoorW.PrintWords Go.Proofs.YtalljcjignaafaaDoorW.PrintLast Go.Proofs.YtalljcjignaafaaDoorW.PrintMore
set_option linter.unusedVariables false
set_option linter.unusedSimpArgs false
mutual
def fewT : Tree → Nat → Tree × Nat
  | ⟨n, kd, x, d, ks⟩, left => (⟨n, kd, x, d, (fewK ks left).1⟩, (fewK ks left).2)
def fewK : List Tree → Nat → List Tree × Nat
  | [], left => ([], left)
  | x :: r, left => if left = 0 then ([], 0) else ((fewT x (left - 1)).1 :: (fewK r (fewT x (left - 1)).2).1, (fewK r (fewT x (left - 1)).2).2)
end
theorem fewK_nil (n : Nat) : fewK [] n = ([], n) := by simp only [fewK]
theorem fewK_cons (x : Tree) (r : List Tree) (n : Nat) : fewK (x :: r) n = if n = 0 then ([], 0) else ((fewT x (n - 1)).1 :: (fewK r (fewT x (n - 1)).2).1, (fewK r (fewT x (n - 1)).2).2) := by rw [fewK]
theorem fewT_eq (t : Tree) (n : Nat) : fewT t n = (⟨t.f0, t.f1, t.f2, t.f3, (fewK t.f4 n).1⟩, (fewK t.f4 n).2) := by cases t; rw [fewT]
mutual
theorem fewT_le : ∀ (t : Tree) (n : Nat), (fewT t n).2 ≤ n
  | ⟨_, _, _, _, ks⟩, n => by simp only [fewT]; exact fewK_le ks n
theorem fewK_le : ∀ (ks : List Tree) (n : Nat), (fewK ks n).2 ≤ n
  | [], n => by simp only [fewK]; exact Nat.le_refl _
  | x :: r, n => by
    simp only [fewK]
    split
    · exact Nat.zero_le _
    · have h1 := fewT_le x (n - 1)
      have h2 := fewK_le r (fewT x (n - 1)).2
      show (fewK r (fewT x (n - 1)).2).2 ≤ n
      omega
end
/-- All that lay in W lies in W', but for one block. -/
def KB (b : Nat) (W W' : World) : Prop := Below 0 W W' ∧ ∀ k, k < W.heap.size → k ≠ b → W'.heap[k]? = W.heap[k]?
theorem KB.refl (b : Nat) (W : World) : KB b W W := ⟨Below.refl _ _, fun _ _ _ => rfl⟩
theorem KB.size {b : Nat} {W W' : World} (h : KB b W W') : W.heap.size ≤ W'.heap.size := h.1.size
theorem KB.trans {b : Nat} {A B C : World} (h : KB b A B) (k : KB b B C) : KB b A C := ⟨below0_trans h.1 k.1, fun i hi hb => (k.2 i (Nat.lt_of_lt_of_le hi h.size) hb).trans (h.2 i hi hb)⟩
theorem KB.of_below {b : Nat} {W W' : World} (h : Below W.heap.size W W') : KB b W W' := ⟨h.mono (Nat.zero_le _), fun k hk _ => h.block k hk⟩
def leftCell (n : Nat) : Obj := .cells #[.int .i64 (n : Int)] 3 (0, 0)
theorem at_F {w : World} {ok : Nat → Prop} {A : Option Addr} {n : Nat} {xs : List Tree} (h : Kd.F k24 w ok A n xs) (j : Nat) (hj : j < xs.length) : ∃ ad A4 c4, A = some ad ∧ w.cell? (ad.add (j * 5)) = some (.string (rd_T24 xs (j : Int)).f0) ∧ w.cell? ⟨(ad.add (j * 5)).block, (ad.add (j * 5)).off + 1, none⟩ = some (.int .i64 (rd_T24 xs (j : Int)).f1) ∧ w.cell? ⟨(ad.add (j * 5)).block, (ad.add (j * 5)).off + 2, none⟩ = some (.bool (rd_T24 xs (j : Int)).f2) ∧ w.cell? ⟨(ad.add (j * 5)).block, (ad.add (j * 5)).off + 3, none⟩ = some (.string (rd_T24 xs (j : Int)).f3) ∧ w.cell? ⟨(ad.add (j * 5)).block, (ad.add (j * 5)).off + 4, none⟩ = some (.slice A4 (rd_T24 xs (j : Int)).f4.length c4) ∧ (rd_T24 xs (j : Int)).f4.length ≤ c4 ∧ Kd.F k24 w ok A4 (rd_T24 xs (j : Int)).f4.length (rd_T24 xs (j : Int)).f4 ∧ ok ad.block := by
  have hn := Kd.F_len h
  obtain ⟨ad, c, e, _, hK, hc0, hob⟩ := Kd.F_get h z24 (j : Int) (by omega) (by omega)
  have hc : ∀ i u, c[i]? = some u → w.cell? (ad.add (j * 5 + i)) = some u := hc0
  obtain ⟨A4, c4, rfl, l4, g4⟩ := k24_openF hK
  exact ⟨ad, A4, c4, e, hc 0 _ rfl, by rw [← add_field _ _ 1 (by omega)]; exact hc 1 _ rfl, by rw [← add_field _ _ 2 (by omega)]; exact hc 2 _ rfl, by rw [← add_field _ _ 3 (by omega)]; exact hc 3 _ rfl, by rw [← add_field _ _ 4 (by omega)]; exact hc 4 _ rfl, l4, g4, hob (show 0 < 5 by decide)⟩
theorem few_meas {n j : Nat} (hlt : j < n) (h : wrap64 ((j : Int) + 1) = ((j + 1 : Nat) : Int)) : n - (intOf (.int .i64 (wrap64 ((j : Int) + 1)))).toNat < n - (intOf (.int .i64 (j : Int))).toNat := by
  rw [h]
  simp [intOf]
  omega
theorem few_end {w wr : World} {bl lf : Nat} {v : Value} {acc : List Tree} (hr : Kd.R k24 24 wr w.heap.size (fun k => k ≠ w.heap.size ∧ k ≠ w.heap.size + 1 ∧ k ≠ bl) v acc) (hb : wr.heap[bl]? = some (leftCell lf)) (hk : KB bl w wr) (hlt : bl < w.heap.size) (u v0 v1 v2 v3 v4 : Value) :
    Kd.R k24 24 (put5 (wr.setCell ⟨w.heap.size, 4, none⟩ u) (w.heap.size + 1) v0 v1 v2 v3 v4) w.heap.size (fun _ => True) v acc ∧ (put5 (wr.setCell ⟨w.heap.size, 4, none⟩ u) (w.heap.size + 1) v0 v1 v2 v3 v4).heap[bl]? = some (leftCell lf) ∧ KB bl w (put5 (wr.setCell ⟨w.heap.size, 4, none⟩ u) (w.heap.size + 1) v0 v1 v2 v3 v4) := by
  have hm : ∀ k, k ≠ w.heap.size → k ≠ w.heap.size + 1 → (put5 (wr.setCell ⟨w.heap.size, 4, none⟩ u) (w.heap.size + 1) v0 v1 v2 v3 v4).heap[k]? = wr.heap[k]? := fun k h1 h2 => (put5_other h2 _ _ _ _ _).trans (Below.heap_setCell wr ⟨w.heap.size, 4, none⟩ u k h1)
  refine ⟨Kd.R_mono (Kd.R_step hr (fun k h1 _ => hm k h1.1 h1.2.1)) (fun _ _ => trivial), (hm bl (by omega) (by omega)).trans hb, ?_, fun k h1 h2 => (hm k (by omega) (by omega)).trans (hk.2 k h1 h2)⟩
  exact put5_below (hk.1.setCell (p := ⟨w.heap.size, 4, none⟩) (Nat.zero_le _) _) (Nat.zero_le _) _ _ _ _ _
def FewOK (bl : Nat) (t : Tree) : Prop := ∀ (left : Nat), left ≤ 300 → ∀ (A : Option Addr) (c : Nat) (w : World), Kd.F k24 w (fun k => k ≠ bl) A t.f4.length t.f4 → t.f4.length ≤ c → w.heap[bl]? = some (leftCell left) →
    Calls Tryd.prog 22 #[.agg #[.string t.f0, .int .i64 t.f1, .bool t.f2, .string t.f3, .slice A t.f4.length c], .pointer (some ⟨bl, 0, none⟩)] w fun e w' => ∃ v4, e = .returned (.agg #[.string t.f0, .int .i64 t.f1, .bool t.f2, .string t.f3, v4]) ∧ Kd.R k24 24 w' w.heap.size (fun _ => True) v4 (fewK t.f4 left).1 ∧ w'.heap[bl]? = some (leftCell (fewK t.f4 left).2) ∧ KB bl w w'
set_option maxRecDepth 100000 in
set_option maxHeartbeats 4000000 in
theorem few_step (bl : Nat) (t : Tree) (ih : ∀ x ∈ t.f4, FewOK bl x) : FewOK bl t := by
  intro left hl A c w hF hc hb
  have hu := Tryd.underlying24
  have HF := Aside0.mk hF
  have HC := Aside0.mk hc
  have IH := Aside0.mk ih
  have hbw := blk_lt hb
  have B1 := Aside0.mk (blk_alloc (heap_alloc_new w (.cells #[.string t.f0, .int .i64 t.f1, .bool t.f2, .string t.f3, .slice A t.f4.length c] 24)) zeroCells)
  have B2 := Aside0.mk (show ((w.alloc (.cells #[.string t.f0, .int .i64 t.f1, .bool t.f2, .string t.f3, .slice A t.f4.length c] 24)).alloc zeroCells).heap[w.heap.size + 1]? = some zeroCells from by
    have h := heap_alloc_new (w.alloc (.cells #[.string t.f0, .int .i64 t.f1, .bool t.f2, .string t.f3, .slice A t.f4.length c] 24)) zeroCells
    rwa [World.size_alloc] at h)
  have B3 := Aside0.mk (blk_alloc (blk_alloc hb (.cells #[.string t.f0, .int .i64 t.f1, .bool t.f2, .string t.f3, .slice A t.f4.length c] 24)) zeroCells)
  have BK := Aside0.mk (show KB bl w ((w.alloc (.cells #[.string t.f0, .int .i64 t.f1, .bool t.f2, .string t.f3, .slice A t.f4.length c] 24)).alloc zeroCells) from KB.of_below (below_alloc (below_alloc (Below.refl _ w) _) _))
  have HBW := Aside0.mk hbw
  have HLF := Aside0.mk hl
  clear hF hc hb ih hbw hl
  go_enter Tryd.func22, Tryd.ntmps22
  go_wp2_with fail
  go_loopw [5, 6] (fun v i wr => ∃ (j : Nat) (acc : List Tree) (lf : Nat), j ≤ t.f4.length ∧ i = .int .i64 j ∧ Aside0 (fewK t.f4 left = (acc ++ (fewK (t.f4.drop j) lf).1, (fewK (t.f4.drop j) lf).2)) ∧ Aside0 (acc.length + lf ≤ 300) ∧
      Aside0 (Kd.R k24 24 wr w.heap.size (fun k => k ≠ w.heap.size ∧ k ≠ w.heap.size + 1 ∧ k ≠ bl) v acc) ∧ Aside0 (wr.heap[w.heap.size]? = some (nodeCells t A c)) ∧ Aside0 (wr.heap[w.heap.size + 1]? = some zeroCells) ∧ Aside0 (wr.heap[bl]? = some (leftCell lf)) ∧ Aside0 (KB bl w wr)) (fun _ i _ => t.f4.length - (intOf i).toNat)
  case atStart => exact ⟨0, [], left, Nat.zero_le _, rfl, ⟨by rw [List.drop_zero, List.nil_append]⟩, ⟨by have := HLF.out; simp; omega⟩, ⟨Kd.R_nil _ _ _ _ _⟩, B1, B2, B3, BK⟩
  case round =>
    obtain ⟨j, acc, lf, hj, rfl, HE, HLN, HR, C1, C2, C3, HK⟩ := hrel
    have x0 := (blk_cell C1.out 0).trans (rfl : _ = some (Value.string t.f0))
    have x1 := (blk_cell C1.out 1).trans (rfl : _ = some (Value.int .i64 t.f1))
    have x2 := (blk_cell C1.out 2).trans (rfl : _ = some (Value.bool t.f2))
    have x3 := (blk_cell C1.out 3).trans (rfl : _ = some (Value.string t.f3))
    have x4 := (blk_cell C1.out 4).trans (rfl : _ = some (Value.slice A t.f4.length c))
    have y0 := (blk_cell C3.out 0).trans (rfl : _ = some (Value.int .i64 (lf : Int)))
    have y1 := blk_nofreeze C3.out 0
    by_cases hlt : j < t.f4.length
    · by_cases hlf : 0 < lf
      · obtain ⟨ad, A4, c4, hA, e0, e1, e2, e3, e4, l4, g4, hadb⟩ := at_F (Kd.F_step HF.out (fun k hk hlt => HK.out.2 k hlt hk)) j hlt
        subst hA
        have hxm : rd_T24 t.f4 (j : Int) ∈ t.f4 := by rw [rd_at t.f4 j hlt]; exact List.getElem_mem hlt
        have HX := Aside0.mk (IH.out _ hxm (lf - 1) (by have := HLN.out; omega) A4 c4)
        have HG := Aside0.mk (And.intro l4 g4)
        have HXE := Aside0.mk (show fewK (t.f4.drop j) lf = ((fewT (rd_T24 t.f4 (j : Int)) (lf - 1)).1 :: (fewK (t.f4.drop (j + 1)) (fewT (rd_T24 t.f4 (j : Int)) (lf - 1)).2).1, (fewK (t.f4.drop (j + 1)) (fewT (rd_T24 t.f4 (j : Int)) (lf - 1)).2).2) from by
          rw [rd_at t.f4 j hlt, List.drop_eq_getElem_cons hlt, fewK_cons, if_neg (by omega)])
        generalize rd_T24 t.f4 (j : Int) = x at *
        have hw1 : wrap64 ((lf : Int) - 1) = ((lf - 1 : Nat) : Int) := by have := HLN.out; unfold wrap64; omega
        have hnb : ∀ (u : Value) (a : Addr), a.block = ad.block → (wr.setCell ⟨bl, 0, none⟩ u).cell? a = wr.cell? a := fun u a ha => World.cell?_setCell_far wr ⟨bl, 0, none⟩ a u (by rw [ha]; exact Ne.symm hadb)
        have f0 := (hnb (.int .i64 ((lf - 1 : Nat) : Int)) _ (add_block _ _)).trans e0
        have f1 := (hnb (.int .i64 ((lf - 1 : Nat) : Int)) ⟨(ad.add (j * 5)).block, (ad.add (j * 5)).off + 1, none⟩ (add_block _ _)).trans e1
        have f2 := (hnb (.int .i64 ((lf - 1 : Nat) : Int)) ⟨(ad.add (j * 5)).block, (ad.add (j * 5)).off + 2, none⟩ (add_block _ _)).trans e2
        have f3 := (hnb (.int .i64 ((lf - 1 : Nat) : Int)) ⟨(ad.add (j * 5)).block, (ad.add (j * 5)).off + 3, none⟩ (add_block _ _)).trans e3
        have f4 := (hnb (.int .i64 ((lf - 1 : Nat) : Int)) ⟨(ad.add (j * 5)).block, (ad.add (j * 5)).off + 4, none⟩ (add_block _ _)).trans e4
        clear hnb hadb e0 e1 e2 e3 e4
        have hlf' : 0 < (lf : Int) := by omega
        clear l4 g4 hxm
        go_wp2_with fail
        refine (HX.out _ (Kd.F_step HG.out.2 (fun k hk _ => Below.heap_setCell _ _ _ _ hk)) HG.out.1 ((blk_store (l := [_]) C3.out 0 _).trans rfl)).mono ?_
        rintro e w1 ⟨v4, rfl, hr4, hb4, hk4⟩
        rw [fewT_eq] at HXE
        have hle := fewK_le x.f4 (lf - 1)
        generalize fewK x.f4 (lf - 1) = kk at *
        obtain ⟨kl, lr⟩ := kk
        dsimp only at hr4 hb4 hle HXE
        have HLE := Aside0.mk hle
        have K1 := Aside0.mk (show KB bl wr w1 from KB.trans ⟨(Below.refl 0 wr).setCell (p := ⟨bl, 0, none⟩) (Nat.zero_le _) _, fun k hk hne => Below.heap_setCell wr ⟨bl, 0, none⟩ _ k hne⟩ hk4)
        have hws := HK.out.size
        have hgs := blk_lt C2.out
        have hbw := HBW.out
        have D1 := Aside0.mk ((K1.out.2 _ (blk_lt C1.out) (by omega)).trans C1.out)
        have D2 := Aside0.mk ((K1.out.2 _ (blk_lt C2.out) (by omega)).trans C2.out)
        have D3 := Aside0.mk hb4
        have R1 := Aside0.mk (Kd.R_step HR.out (fun k hk hlt => K1.out.2 k hlt hk.2.2))
        have hsz : (wr.setCell ⟨bl, 0, none⟩ (.int .i64 ((lf - 1 : Nat) : Int))).heap.size = wr.heap.size := by simp
        rw [hsz] at hr4
        have M1 := Aside0.mk (show Kd.R k24 24 w1 w.heap.size (fun k => (k ≠ w.heap.size ∧ k ≠ w.heap.size + 1 ∧ k ≠ bl) ∧ some k ≠ u5.ownBlock) v4 kl from
          Kd.R_lower (Kd.R_mono (Kd.R_bound hr4) (fun k hk => ⟨⟨by have := hk.2.1; omega, by have := hk.2.1; omega, by have := hk.2.1; omega⟩, fun e => by have := Kd.R_lt HR.out k e.symm; have := hk.2.1; omega⟩)) hws)
        obtain ⟨Ao, co, eo⟩ := Kd.R_slice M1.out
        subst eo
        have HWS := Aside0.mk (And.intro hws (And.intro hgs hbw))
        have HS1 := Aside0.mk K1.out.size
        clear hle hr4 hb4 hk4 hws hgs hbw f0 f1 f2 f3 f4 x0 x1 x2 x3 x4 y0 y1 hsz
        have hal : acc.length ≤ 300 := by have := HLN.out; omega
        have HAL := Aside0.mk hal
        have hjw : wrap64 ((j : Int) + 1) = ((j + 1 : Nat) : Int) := by have := Kd.F_max HF.out; unfold wrap64; omega
        clear hal
        go_wp2_with ((with_reducible refine gate_builtin (b := .append) (xs := #[.tmp 26, .tmp 34]) rfl ?_); at_builtin; refine Kd.R_append k24 (w0 := w1) w.heap.size rfl (.tmp 26) (.tmp 34) 22 24 (.agg #[(.string ⟨#[]⟩), (.int .i64 0), (.bool false), (.string ⟨#[]⟩), (.slice none 0 0)]) 72 rfl Tryd.underlying22 info24 rfl (by decide) (by omega) u5 acc (⟨x.f0, x.f1, x.f2, x.f3, kl⟩ : Tree) [.string x.f0, .int .i64 x.f1, .bool x.f2, .string x.f3, .slice Ao kl.length co] (fun k => k ≠ w.heap.size ∧ k ≠ w.heap.size + 1 ∧ k ≠ bl) (fun k => (k ≠ w.heap.size ∧ k ≠ w.heap.size + 1 ∧ k ≠ bl) ∧ some k ≠ (u5 : Value).ownBlock) rfl rfl ?aP (fun _ hk => hk) ?aF ?aO ?aB ?aS ?aL ?_; (case aP => exact k24_mkM _ _ _ (⟨x.f0, x.f1, x.f2, x.f3, kl⟩ : Tree) M1.out); (case aF => intro k hk; have := HWS.out; have := HS1.out; exact ⟨by omega, by omega, by omega⟩); (case aO => exact R1.out); (case aB => exact Below.refl _ _); (case aS => have := HWS.out; have := HS1.out; omega); (case aL => have := HAL.out; omega); intro v5 w2 ho hb hg hat; have E1 := Aside0.mk (blk_grown D1.out hg (Kd.R_away R1.out (fun _ hk => hk.1))); have E2 := Aside0.mk (blk_grown D2.out hg (Kd.R_away R1.out (fun _ hk => hk.2.1))); have E3 := Aside0.mk (blk_grown D3.out hg (Kd.R_away R1.out (fun _ hk => hk.2.2))); have E4 := Aside0.mk ho; have E5 := Aside0.mk hb; clear ho hb hg hat)
        go_roundw
        case rel =>
          refine ⟨j + 1, acc ++ [⟨x.f0, x.f1, x.f2, x.f3, kl⟩], lr, by omega, by rw [hjw], ⟨?_⟩, ⟨?_⟩, E4, E1, E2, E3, ⟨?_⟩⟩
          · rw [HE.out, HXE.out]
            simp
          · have h1 := HLE.out
            have h2 := HLN.out
            rw [List.length_append, List.length_singleton]
            omega
          · have h1 := HK.out.trans K1.out
            exact ⟨below0_trans h1.1 (E5.out.mono (Nat.zero_le _)), fun k hk hne => (E5.out.block k hk).trans (h1.2 k hk hne)⟩
        case measure => exact few_meas hlt hjw
      · have hz : lf = 0 := by omega
        subst hz
        have HRS := HR
        obtain ⟨Ao, co, eo⟩ := Kd.R_slice HR.out
        subst eo
        have HZ := Aside0.mk (show fewK t.f4 left = (acc, 0) from by
          rw [HE.out, List.drop_eq_getElem_cons hlt, fewK_cons, if_pos rfl, List.append_nil])
        have g0 := (blk_cell C2.out 0).trans (rfl : _ = some (Value.string ⟨#[]⟩))
        have g1 := (blk_cell C2.out 1).trans (rfl : _ = some (Value.int .i64 0))
        have g2 := (blk_cell C2.out 2).trans (rfl : _ = some (Value.bool false))
        have g3 := (blk_cell C2.out 3).trans (rfl : _ = some (Value.string ⟨#[]⟩))
        have g4 := (blk_cell C2.out 4).trans (rfl : _ = some (Value.slice none 0 0))
        have u0 := blk_nofreeze C2.out 0
        have u1 := blk_nofreeze C2.out 1
        have u2 := blk_nofreeze C2.out 2
        have u3 := blk_nofreeze C2.out 3
        have u4 := blk_nofreeze C2.out 4
        have x5 := blk_nofreeze C1.out 4
        go_wp2_with fail
        have hne : w.heap.size + 1 ≠ w.heap.size := by omega
        have HQ : (put5 (wr.setCell ⟨w.heap.size, 4, none⟩ (.slice Ao acc.length co)) (w.heap.size + 1) (.string t.f0) (.int .i64 t.f1) (.bool t.f2) (.string t.f3) (.slice Ao acc.length co)).heap[w.heap.size + 1]? = some (.cells #[.string t.f0, .int .i64 t.f1, .bool t.f2, .string t.f3, .slice Ao acc.length co] 24 (0, 0)) := put5_at ((Below.heap_setCell wr ⟨w.heap.size, 4, none⟩ _ _ hne).trans C2.out) _ _ _ _ _
        refine bodyPost_ret (results_cell_row rfl _ _ (w.heap.size + 1) 24 #[.string t.f0, .int .i64 t.f1, .bool t.f2, .string t.f3, .slice Ao acc.length co] (0, 0) _ rfl HQ Tryd.underlying24 rfl (by kernel_rfl)) rfl ?_
        rw [HZ.out]
        exact ⟨_, rfl, few_end HR.out C3.out HK.out HBW.out _ _ _ _ _ _⟩
    · have hjn : j = t.f4.length := by omega
      obtain ⟨Ao, co, eo⟩ := Kd.R_slice HR.out
      subst eo
      have HZ := Aside0.mk (show fewK t.f4 left = (acc, lf) from by
        rw [HE.out, List.drop_of_length_le (by omega), fewK_nil, List.append_nil])
      have g0 := (blk_cell C2.out 0).trans (rfl : _ = some (Value.string ⟨#[]⟩))
      have g1 := (blk_cell C2.out 1).trans (rfl : _ = some (Value.int .i64 0))
      have g2 := (blk_cell C2.out 2).trans (rfl : _ = some (Value.bool false))
      have g3 := (blk_cell C2.out 3).trans (rfl : _ = some (Value.string ⟨#[]⟩))
      have g4 := (blk_cell C2.out 4).trans (rfl : _ = some (Value.slice none 0 0))
      have u0 := blk_nofreeze C2.out 0
      have u1 := blk_nofreeze C2.out 1
      have u2 := blk_nofreeze C2.out 2
      have u3 := blk_nofreeze C2.out 3
      have u4 := blk_nofreeze C2.out 4
      have x5 := blk_nofreeze C1.out 4
      go_wp2_with fail
      have hne : w.heap.size + 1 ≠ w.heap.size := by omega
      have HQ : (put5 (wr.setCell ⟨w.heap.size, 4, none⟩ (.slice Ao acc.length co)) (w.heap.size + 1) (.string t.f0) (.int .i64 t.f1) (.bool t.f2) (.string t.f3) (.slice Ao acc.length co)).heap[w.heap.size + 1]? = some (.cells #[.string t.f0, .int .i64 t.f1, .bool t.f2, .string t.f3, .slice Ao acc.length co] 24 (0, 0)) := put5_at ((Below.heap_setCell wr ⟨w.heap.size, 4, none⟩ _ _ hne).trans C2.out) _ _ _ _ _
      refine bodyPost_ret (results_cell_row rfl _ _ (w.heap.size + 1) 24 #[.string t.f0, .int .i64 t.f1, .bool t.f2, .string t.f3, .slice Ao acc.length co] (0, 0) _ rfl HQ Tryd.underlying24 rfl (by kernel_rfl)) rfl ?_
      rw [HZ.out]
      exact ⟨_, rfl, few_end HR.out C3.out HK.out HBW.out _ _ _ _ _ _⟩
end Go.Proofs.YtalljcjignaafaaDoor.PB
namespace Go.Proofs.YtalljcjignaafaaDoor
open Go.RowKit Go.Proofs.YtalljcjignaafaaDoor.PB Go.Proofs.YtalljcjignaafaaDoorW.PrintWords Go.Proofs.YtalljcjignaafaaDoorW.PrintLast
set_option linter.unusedVariables false
set_option linter.unusedSimpArgs false
def cutB (n : Nat) (s : ByteArray) : ByteArray := s.extract 0 (min s.size n)
theorem cutB_size (n : Nat) (s : ByteArray) : (cutB n s).size = min s.size n := by
  unfold cutB; rw [ByteArray.size_extract]; omega
def cutP : Nat → Tree → Tree
  | 0, t => ⟨cutB 30 t.f0, t.f1, t.f2, cutB 300 t.f3, []⟩
  | d + 1, t => ⟨cutB 30 t.f0, t.f1, t.f2, cutB 300 t.f3, (t.f4.take 6).map (cutP d)⟩
/-- A small node: its name, its data, and how many kids. -/
inductive Lim : Tree → Prop
  | mk (t : Tree) (h0 : t.f0.size ≤ 30) (h3 : t.f3.size ≤ 300) (h4 : t.f4.length ≤ 6) (hk : ∀ k, k ∈ t.f4 → Lim k) : Lim t
theorem Lim.name {t : Tree} (h : Lim t) : t.f0.size ≤ 30 := by cases h; assumption
theorem Lim.data {t : Tree} (h : Lim t) : t.f3.size ≤ 300 := by cases h; assumption
theorem Lim.kids {t : Tree} (h : Lim t) : t.f4.length ≤ 6 := by cases h; assumption
theorem Lim.kid {t : Tree} (h : Lim t) : ∀ k ∈ t.f4, Lim k := by cases h; assumption
theorem cutP_f0 (d : Nat) (t : Tree) : (cutP d t).f0 = cutB 30 t.f0 := by cases d <;> rfl
theorem cutP_f1 (d : Nat) (t : Tree) : (cutP d t).f1 = t.f1 := by cases d <;> rfl
theorem cutP_f3 (d : Nat) (t : Tree) : (cutP d t).f3 = cutB 300 t.f3 := by cases d <;> rfl
theorem cutP_lim : ∀ (d : Nat) (t : Tree), Lim (cutP d t)
  | 0, t => Lim.mk _ (by rw [cutP_f0, cutB_size]; omega) (by rw [cutP_f3, cutB_size]; omega) (by show ([] : List Tree).length ≤ _; simp) (fun k hk => by cases hk)
  | d + 1, t => Lim.mk _ (by rw [cutP_f0, cutB_size]; omega) (by rw [cutP_f3, cutB_size]; omega) (by show ((t.f4.take 6).map (cutP d)).length ≤ _; simp; omega) (fun k hk => by
      obtain ⟨x, hx, rfl⟩ := List.mem_map.1 hk
      exact cutP_lim d x)
theorem cutP_fit : ∀ (d : Nat) (t : Tree), Fit t → Fit (cutP d t)
  | 0, t, h => Fit.mk _ (by rw [cutP_f0, cutB_size]; omega) (by rw [cutP_f1]; exact h.kind) (by rw [cutP_f3, cutB_size]; omega) (by show ([] : List Tree).length ≤ _; simp) (fun k hk => by cases hk)
  | d + 1, t, h => Fit.mk _ (by rw [cutP_f0, cutB_size]; omega) (by rw [cutP_f1]; exact h.kind) (by rw [cutP_f3, cutB_size]; omega) (by show ((t.f4.take 6).map (cutP d)).length ≤ _; simp; omega) (fun k hk => by
      obtain ⟨x, hx, rfl⟩ := List.mem_map.1 hk
      exact cutP_fit d x (h.kid x (List.mem_of_mem_take hx)))
theorem mn_cut6 (n m : Nat) : mn (n : Int) (m : Int) = ((min n m : Nat) : Int) := by
  unfold mn; split <;> omega
theorem cut_loop (d : Nat) (hd : d ≤ 16) (t : Tree) (hl : t.f4.length ≤ 1954687338212) (nm dt : ByteArray)
    (ih : ∀ x ∈ t.f4, Ev (fun k => whisklaw06_cut.f k x.f0 x.f1 x.f2 x.f3 x.f4 (d : Int)) ((cutP d x).f0, (cutP d x).f1, (cutP d x).f2, (cutP d x).f3, (cutP d x).f4)) :
    ∀ (n i : Nat) (acc : List Tree), 6 - i = n → i ≤ 6 → acc.length ≤ i → Ev (fun k => whisklaw06_cut.l0 k ((d + 1 : Nat) : Int) acc (i : Int) nm t.f1 t.f2 dt t.f4) (nm, t.f1, t.f2, dt, acc ++ ((t.f4.take 6).drop i).map (cutP d))
  | 0, i, acc, hn, hi, ha => by
    refine Ev.succ ((Ev.const _).congr (fun k => ?_) rfl)
    simp only [whisklaw06_cut.l0]
    rw [List.drop_of_length_le (by simp; omega)]
    by_cases h1 : (i : Int) < (t.f4.length : Int)
    · rw [if_pos h1, if_neg (by omega)]; simp
    · rw [if_neg h1]; simp
  | n + 1, i, acc, hn, hi, ha => by
    by_cases h1 : i < t.f4.length
    · have h2 : i < (t.f4.take 6).length := by simp; omega
      have e1 : ((t.f4.take 6).drop i).map (cutP d) = cutP d t.f4[i] :: ((t.f4.take 6).drop (i + 1)).map (cutP d) := by
        rw [List.drop_eq_getElem_cons h2, List.map_cons, List.getElem_take]
      refine Ev.succ (Ev.congr ((ih t.f4[i] (List.getElem_mem h1)).bind (g := fun k bt => whisklaw06_cut.l0 k ((d + 1 : Nat) : Int) (acc ++ [(⟨bt.1, bt.2.1, bt.2.2.1, bt.2.2.2.1, bt.2.2.2.2⟩ : Tree)]) ((i + 1 : Nat) : Int) nm t.f1 t.f2 dt t.f4) ((cut_loop d hd t hl nm dt ih n (i + 1) (acc ++ [cutP d t.f4[i]]) (by omega) (by omega) (by simp; omega)).congr (fun k => by generalize cutP d t.f4[i] = q; cases q; rfl) rfl)) (fun k => ?_) ?_)
      · simp only [whisklaw06_cut.l0]
        rw [if_pos (by omega), if_pos (by omega), if_pos (by omega), if_pos (by omega), rd_at t.f4 i h1, wrap64_id ((d + 1 : Nat) - 1 : Int) (by omega) (by omega), wrap64_id ((i : Int) + 1) (by omega) (by omega), show (((d + 1 : Nat) : Int) - 1) = (d : Int) by omega]
        simp only [show acc.length < 1954687338268 by omega, if_true]
        rfl
      · rw [e1]; simp
    · refine Ev.succ ((Ev.const _).congr (fun k => ?_) rfl)
      simp only [whisklaw06_cut.l0]
      rw [if_neg (by omega), List.drop_of_length_le (by simp; omega)]
      simp
theorem cut_ev : ∀ (d : Nat) (t : Tree), d ≤ 17 → Fit t → Ev (fun k => whisklaw06_cut.f k t.f0 t.f1 t.f2 t.f3 t.f4 (d : Int)) ((cutP d t).f0, (cutP d t).f1, (cutP d t).f2, (cutP d t).f3, (cutP d t).f4)
  | 0, t, hd, hf => by
    refine Ev.succ (Ev.succ ((Ev.const _).congr (fun k => ?_) rfl))
    simp only [whisklaw06_cut.f, show (30 : Int) = ((30 : Nat) : Int) from rfl, show (300 : Int) = ((300 : Nat) : Int) from rfl, mn_cut6]
    rw [if_pos (by omega), if_pos (by omega), if_pos (by omega), if_pos (by omega)]
    simp only [whisklaw06_cut.l0]
    by_cases h1 : (0 : Int) < (t.f4.length : Int)
    · rw [if_pos h1, if_pos (by decide), if_neg (by decide)]; rfl
    · rw [if_neg h1]; rfl
  | d + 1, t, hd, hf => by
    refine Ev.succ (Ev.congr (cut_loop d (by omega) t hf.kids (cutB 30 t.f0) (cutB 300 t.f3) (fun x hx => cut_ev d x (by omega) (hf.kid x hx)) 6 0 [] (by omega) (by omega) (by simp)) (fun k => ?_) ?_)
    · simp only [whisklaw06_cut.f, show (30 : Int) = ((30 : Nat) : Int) from rfl, show (300 : Int) = ((300 : Nat) : Int) from rfl, mn_cut6]
      rw [if_pos (by omega), if_pos (by omega), if_pos (by omega), if_pos (by omega)]
      rfl
    · rfl
mutual
theorem fewT_fit : ∀ (t : Tree) (n : Nat), Fit t → Fit (fewT t n).1
  | ⟨a, b, c, d, ks⟩, n, h => by
    simp only [fewT]
    have h1 := fewK_fit ks n h.kid
    have h2 : ks.length ≤ 1954687338212 := h.kids
    exact Fit.mk _ h.name h.kind h.data (Nat.le_trans h1.1 h2) h1.2
theorem fewK_fit : ∀ (ks : List Tree) (n : Nat), (∀ x ∈ ks, Fit x) → (fewK ks n).1.length ≤ ks.length ∧ ∀ x ∈ (fewK ks n).1, Fit x
  | [], n, _ => by simp only [fewK]; exact ⟨Nat.le_refl _, fun x hx => by cases hx⟩
  | x :: r, n, h => by
    simp only [fewK]
    split
    · exact ⟨Nat.zero_le _, fun x hx => by cases hx⟩
    · have h1 := fewT_fit x (n - 1) (h x (by simp))
      have h2 := fewK_fit r (fewT x (n - 1)).2 (fun y hy => h y (by simp [hy]))
      refine ⟨Nat.succ_le_succ h2.1, fun y hy => ?_⟩
      rcases List.mem_cons.1 hy with rfl | hy
      · exact h1
      · exact h2.2 y hy
end
mutual
theorem fewT_lim : ∀ (t : Tree) (n : Nat), Lim t → Lim (fewT t n).1
  | ⟨a, b, c, d, ks⟩, n, h => by
    simp only [fewT]
    have h1 := fewK_lim ks n h.kid
    have h2 : ks.length ≤ 6 := h.kids
    exact Lim.mk _ h.name h.data (Nat.le_trans h1.1 h2) h1.2
theorem fewK_lim : ∀ (ks : List Tree) (n : Nat), (∀ x ∈ ks, Lim x) → (fewK ks n).1.length ≤ ks.length ∧ ∀ x ∈ (fewK ks n).1, Lim x
  | [], n, _ => by simp only [fewK]; exact ⟨Nat.le_refl _, fun x hx => by cases hx⟩
  | x :: r, n, h => by
    simp only [fewK]
    split
    · exact ⟨Nat.zero_le _, fun x hx => by cases hx⟩
    · have h1 := fewT_lim x (n - 1) (h x (by simp))
      have h2 := fewK_lim r (fewT x (n - 1)).2 (fun y hy => h y (by simp [hy]))
      refine ⟨Nat.succ_le_succ h2.1, fun y hy => ?_⟩
      rcases List.mem_cons.1 hy with rfl | hy
      · exact h1
      · exact h2.2 y hy
end
def smallP (t : Tree) : Tree := (fewT (cutP 16 t) 300).1
theorem small_fit (t : Tree) (h : Fit t) : Fit (smallP t) := fewT_fit _ _ (cutP_fit 16 t h)
theorem small_lim (t : Tree) : Lim (smallP t) := fewT_lim _ _ (cutP_lim 16 t)
end Go.Proofs.YtalljcjignaafaaDoor

/-
NarSize of chapter 09, outright: for every tree that is handed in, cut as the law says, its bytes are no fewer than its data and its names and one for each node, and no more than these, eight for each node, and twenty. No conditions.
-/
import Derived.Test.YtnnpfahlfmeakaaRows
import Derived.Test.YtnnpfahlfmeakaaQNarSize35
import Derived.Test.YtnnpfahlfmeakaaQNarSize36
import Derived.Test.YtnnpfahlfmeakaaQNarSize39
namespace Go.Proofs.Ytnnpfahlfmeakaa.narSize
open Go.ChangeShapes Go.WideShapes Go.ChangeAt Go.RowKit Go.Proofs.Ytnnpfahlfmeakaa Go.Proofs.Ytnnpfahlfmeakaa.PB Go.Proofs.YtnnpfahlfmeakaaW.PrintWords
set_option linter.unusedVariables false
set_option linter.unusedSimpArgs false
theorem path_size (t : Tree) (hf : Fit t) : mayP t = true → ∀ p, ∀ q ∈ pathsP t p, q.size ≤ p.size + 57 * depthP t := by
  induction hf with
  | mk t h0 h1 h3 h4 hk ih =>
    intro hm p q hq
    have hkm := mayP_kids t hm
    have hkn := may_names t hm
    rw [pathsP_eq] at hq
    rcases List.mem_cons.1 hq with rfl | hq
    · omega
    · by_cases h2 : t.f1 = 2
      · rw [if_pos h2] at hq
        have key : ∀ (ks : List Tree), (∀ k ∈ ks, k ∈ t.f4) → q ∈ pathsK ks p → q.size ≤ p.size + 57 * depthP t := by
          intro ks
          induction ks with
          | nil => intro _ h; cases h
          | cons k r ihr =>
            intro hs h
            simp only [pathsK] at h
            rcases List.mem_append.1 h with h | h
            · have hmem := hs k (by simp)
              have a1 := ih k hmem (hkm.2 k hmem) (p ++ ⟨#[47]⟩ ++ k.f0) q h
              have a2 := depth_kid t hm k hmem
              obtain ⟨-, -, a3⟩ := name_bytes k.f0 (hkn k hmem)
              have a4 : (⟨#[47]⟩ : ByteArray).size = 1 := rfl
              rw [ByteArray.size_append, ByteArray.size_append, a4] at a1
              omega
            · exact ihr (fun x hx => hs x (by simp [hx])) h
        exact key t.f4 (fun k hk => hk) hq
      · rw [if_neg h2] at hq; cases hq
theorem each_size (t : Tree) (hf : Fit t) (hm : mayP t = true) (hd : depthP t ≤ 12) : ∀ q ∈ eachP t, q.size ≤ 1000 := by
  intro q hq
  have hkm := mayP_kids t hm
  have hkn := may_names t hm
  unfold eachP at hq
  split at hq
  · cases hq
  · unfold eachK at hq
    obtain ⟨j, hj, hq⟩ := List.mem_flatMap.1 hq
    have hjl : j < t.f4.length := by simpa using hj
    rw [rd_at t.f4 j hjl] at hq
    have hmem := List.getElem_mem hjl
    have a1 := path_size _ (hf.kid _ hmem) (hkm.2 _ hmem) _ q hq
    obtain ⟨-, -, a3⟩ := name_bytes _ (hkn _ hmem)
    have a2 := depth_kid t hm _ hmem
    omega
theorem l1_ev (S : ByteArray) (N B X : Int) (L : List ByteArray) (i : Nat) (hi : i < L.length) (hl : L.length ≤ 100000) (s : ByteArray) (hs : rdOf ByteArray.empty L (i : Int) = s) (hsz : s.size ≤ 1000) (v : Bool) :
    ∀ a, a ≤ s.size → Ev (fun k => whisklaw09_NarSize.l0 k S N B (wrap64 (wrap64 (X + (s.size : Int)) - ((lastAt (bl s) a : Nat) : Int))) L ((i + 1 : Nat) : Int)) v → Ev (fun k => whisklaw09_NarSize.l1 k S N B X L (i : Int) (a : Int)) v
  | 0, ha, h => by
    refine Ev.succ (h.congr (fun k => ?_) rfl)
    rw [whisklaw09_NarSize.l1, if_neg (by omega), if_pos (by omega), if_pos (by omega), hs, wrap64_id ((i : Int) + 1) (by omega) (by omega)]
    rfl
  | a + 1, ha, h => by
    have hal : a < s.size := by omega
    have hb : bt s (a : Int) = (s[a].toNat : Int) := bt_nat s a hal
    have hg : (bl s).getD a 0 = s[a] := by
      have hla : a < (bl s).length := hal
      rw [List.getD_eq_getElem?_getD, List.getElem?_eq_getElem hla, Option.getD_some]
      rfl
    have hw : wrap64 (((a + 1 : Nat) : Int) - 1) = (a : Int) := by rw [wrap64_id _ (by omega) (by omega)]; omega
    by_cases h47 : s[a] = 47
    · have e : lastAt (bl s) (a + 1) = a + 1 := by unfold lastAt; rw [hg, if_pos h47]
      rw [e] at h
      refine Ev.succ (h.congr (fun k => ?_) rfl)
      rw [whisklaw09_NarSize.l1, if_pos (by omega), if_pos (by omega), if_pos (by omega), hw, if_pos (by omega), hs, if_pos (by omega), hb, if_pos (by rw [h47]; rfl), wrap64_id ((i : Int) + 1) (by omega) (by omega)]
      rfl
    · have e : lastAt (bl s) (a + 1) = lastAt (bl s) a := by conv => lhs; unfold lastAt
                                                             rw [hg, if_neg h47]
      rw [e] at h
      refine Ev.succ ((l1_ev S N B X L i hi hl s hs hsz v a (by omega) h).congr (fun k => ?_) rfl)
      have hne : ¬ (s[a].toNat : Int) = 47 := by
        intro h2
        exact h47 (UInt8.toNat_inj.1 (by have : (47 : UInt8).toNat = 47 := rfl; omega))
      rw [whisklaw09_NarSize.l1, if_pos (by omega), if_pos (by omega), if_pos (by omega), hw, if_pos (by omega), hs, if_pos (by omega), hb, if_neg hne]
theorem sum_take (L : List ByteArray) (i : Nat) (h : i < L.length) : sumL (L.take (i + 1)) = sumL (L.take i) + lastLen L[i] := by
  rw [List.take_succ_eq_append_getElem h, sumL_append, sumL_cons]
  simp [sumL]
theorem sum_take_le (L : List ByteArray) (i : Nat) : sumL (L.take i) ≤ sumL L := by
  have := sumL_append (L.take i) (L.drop i)
  rw [List.take_append_drop] at this
  omega
theorem l0_ev (S : ByteArray) (N B : Nat) (L : List ByteArray) (hl : L.length ≤ 100000) (hsz : ∀ q ∈ L, q.size ≤ 1000) (hN : N ≤ 2000) (hB : B ≤ 100000) (hsum : sumL L ≤ 100000)
    (hlo : B + sumL L + N ≤ S.size) (hhi : S.size ≤ B + sumL L + 8 * N + 20) :
    ∀ (n i : Nat), i + n = L.length → Ev (fun k => whisklaw09_NarSize.l0 k S (N : Int) (B : Int) ((sumL (L.take i) : Nat) : Int) L (i : Int)) true
  | 0, i, hi => by
    obtain rfl : i = L.length := by omega
    refine Ev.succ ((Ev.const true).congr (fun k => ?_) rfl)
    rw [List.take_length]
    rw [whisklaw09_NarSize.l0, if_neg (by omega), wrap64_id ((B : Int) + (sumL L : Nat)) (by omega) (by omega), wrap64_id ((B : Int) + (sumL L : Nat) + N) (by omega) (by omega), if_pos (by omega), wrap64_id (8 * (N : Int)) (by omega) (by omega), wrap64_id ((B : Int) + (sumL L : Nat) + 8 * N) (by omega) (by omega), wrap64_id ((B : Int) + (sumL L : Nat) + 8 * N + 20) (by omega) (by omega), if_pos (by omega), works_f]
    rfl
  | n + 1, i, hi => by
    have hlt : i < L.length := by omega
    have hs : rdOf ByteArray.empty L (i : Int) = L[i] := by unfold rdOf; rw [Int.toNat_natCast, List.getD_eq_getElem?_getD, List.getElem?_eq_getElem hlt]; rfl
    have h1 := hsz _ (List.getElem_mem hlt)
    have h2 := sum_take L i hlt
    have h3 := sum_take_le L (i + 1)
    have h4 := lastAt_le (bl L[i]) L[i].size
    have h0 := l0_ev S N B L hl hsz hN hB hsum hlo hhi n (i + 1) (by omega)
    have e : wrap64 (wrap64 (((sumL (L.take i) : Nat) : Int) + (L[i].size : Int)) - ((lastAt (bl L[i]) L[i].size : Nat) : Int)) = ((sumL (L.take (i + 1)) : Nat) : Int) := by
      rw [wrap64_id (((sumL (L.take i) : Nat) : Int) + (L[i].size : Int)) (by omega) (by omega), wrap64_id _ (by omega) (by omega), h2]
      unfold lastLen
      omega
    rw [← e] at h0
    refine Ev.succ ((l1_ev S N B ((sumL (L.take i) : Nat) : Int) L i hlt hl L[i] hs h1 true L[i].size (Nat.le_refl _) h0).congr (fun k => ?_) rfl)
    rw [whisklaw09_NarSize.l0, if_pos (by omega), if_pos (by omega), hs]
theorem each_f (x : Tree) (fx : Fit x) (h : (eachP x).length ≤ 8796093022200) : tree_Each.f x.f0 x.f1 x.f2 x.f3 x.f4 = some (eachP x) := by
  cases x; exact if_pos ⟨fx, h⟩
theorem pure (a : Tree) (ha : Fit a) : ∃ k, whisklaw09_NarSize.f k a.f0 a.f1 a.f2 a.f3 a.f4 = some true := by
  obtain ⟨k0, h0⟩ := short_ev 13 a (by decide) ha
  have fx := shortP_fit 13 a ha
  have zx := shortP_sized 13 a
  generalize shortP 13 a = x at *
  have hen : nar_Encode.f x.f0 x.f1 x.f2 x.f3 x.f4 = some (encP x) := by cases x; exact if_pos ⟨fx, zx⟩
  by_cases he : (encP x).2 = 0
  · obtain ⟨a1, a2, a3⟩ := enc_ok x he
    obtain ⟨b1, b2, b3, b4, b5⟩ := checkP_ok x a1
    obtain ⟨s1, s2⟩ := each_sum x fx b3 b1
    obtain ⟨n1, n2⟩ := nodeB_both x fx b3 b4 b5
    have hms : magicB.size = 11 := by rw [magic_is]; rfl
    have hsz : (encP x).1.size = 11 + (nodeB x).size := by rw [a2]; show (magicB ++ nodeB x).size = _; rw [ByteArray.size_append, hms]
    rw [ByteArray.size_append, hms] at a3
    obtain ⟨k1, h1⟩ := Size_ev x fx b3 b1 (by omega)
    obtain ⟨k2, h2⟩ := l0_ev (encP x).1 (sizeN x) (sizeB x) (eachP x) (by omega) (each_size x fx b3 b1) b4 b5 (by omega) (by omega) (by omega) (eachP x).length 0 (by omega)
    have hea : tree_Each.f x.f0 x.f1 x.f2 x.f3 x.f4 = some (eachP x) := by
      have hel : (eachP x).length ≤ 8796093022200 := by omega
      exact each_f x fx hel
    refine ⟨max k0 (max k1 k2), ?_⟩
    have g0 := h0 (max k0 (max k1 k2)) (by omega)
    have g1 := h1 (max k0 (max k1 k2)) (by omega)
    have g2 := h2 (max k0 (max k1 k2)) (by omega)
    generalize max k0 (max k1 k2) = m at *
    simp only [] at g0 g1 g2
    unfold whisklaw09_NarSize.f
    rw [show (13 : Int) = ((13 : Nat) : Int) from rfl, g0, Option.bind_some]
    dsimp only
    rw [hen, Option.bind_some, if_pos he, g1, Option.bind_some, hea, Option.bind_some]
    exact g2
  · refine ⟨k0, ?_⟩
    have g0 := h0 k0 (Nat.le_refl _)
    simp only [] at g0
    unfold whisklaw09_NarSize.f
    rw [show (13 : Int) = ((13 : Nat) : Int) from rfl, g0, Option.bind_some]
    dsimp only
    rw [hen, Option.bind_some, if_neg he, enc_ne x he, if_pos (by rw [tl_eq]), works_f]
    rfl
theorem own : ownKnob Try.prog.godebug = none := by kernel_rfl
set_option maxRecDepth 100000 in
theorem lifted (os : Os) (started : os.Started) (H : Type) (enc : TypeId × Value → H) :
    ReturnsInHanded {} Try.checked os 8 .any (Rows.narSizeSpec.pre6 enc Try.prog Try.f8 Rows.narSizeRow.domain false) (Rows.narSizeSpec.post enc Try.prog Try.f8 false true false false) := by
  refine returnsInHanded_of_change_sized (C := Try.checked) own started (by kernel_rfl) Try.func8
    (ChangeSpec.witness6 (enc := enc) (C := Try.checked) false ⟨#[], #[.agg #[.string ByteArray.empty, .int .i64 0, .bool false, .string ByteArray.empty, .slice none 0 0]], []⟩ 8 (by kernel_rfl) (by kernel_rfl) (by kernel_rfl) (by kernel_rfl)) ?_
  intro W base args ds gs before hval0 hW hcnd hsz0 _
  have hsz : (DataW.weightsEach Try.prog (Try.f8.params.toList ++ Rows.narSizeSpec.plain.varTypes Try.prog) (ds ++ gs)).all (· ≤ reachBytes) = true := hsz0
  have hval : ∀ (j : Nat) t v, Try.f8.params[j]? = some t → args[j]? = some v → Value.okWide Try.prog W .any base t v := hval0
  have hW' := hW
  obtain ⟨p, q, hA0, hV, rfl, hfz, hnd⟩ := hW
  have hA : DataW.TrodAll enc Try.prog W 0 (fun _ => true) true Try.f8.params.toList args.toList ds p := hA0
  rw [Try.params8] at hA hval hsz
  obtain ⟨v0, vs0, d0, ds0, p0, q0, hargs, rfl, rfl, h0, r0⟩ := trodAll_cons hA
  obtain ⟨rfl, rfl, rfl⟩ := trodAll_nil r0
  obtain rfl : args = #[v0] := by cases args; simp_all
  obtain ⟨rfl, rfl⟩ := trodVars_none hV
  have hw0 : ∀ n ∈ d0.weights Try.prog 24, n ≤ reachBytes := fun n hn => by
    have := List.all_eq_true.1 hsz n (DataW.weights_mem_each (j := 0) (t := 24) (d := d0) rfl rfl n hn)
    simpa using this
  obtain ⟨tt, A, c, rfl, hlc, hC, hF⟩ := node_of (hval 0 24 v0 rfl rfl) h0 hw0
  clear hA0 hval0 hsz0 hsz
  obtain ⟨k, hk⟩ := pure tt hF
  refine (PB.whisklaw09_NarSize.calls k tt.f0 tt.f1 tt.f2 tt.f3 A c tt.f4 true W hC hlc hk).mono fun e W' ⟨he, bel⟩ => ?_
  subst he
  exact ⟨_, rfl, _, _, _, [], _, [], hW', trodAll_mk1 (shut_bool Try.underlying4 _), (trodAll_cons_mk (node_kept h0 bel) trodAll_mk0), rfl, bel.frame _, fun h => by cases h⟩
theorem over : Rows.narSizeRow.holds Try.pinned (OpenSpec.ofChange Rows.narSizeSpec) :=
  OpenClaim.holds_of_wide 8 Try.f8 rfl rfl rfl rfl rfl rfl rfl ⟨rfl, rfl, rfl, rfl, rfl⟩ rfl rfl rfl rfl rfl (by kernel_rfl) Try.func8 (by kernel_rfl)
    (of_decide_eq_true (by kernel_rfl)) (by unfold Func.isWrapper; first | (rw [if_pos (by decide +kernel)]; kernel_rfl) | (rw [if_neg (by decide +kernel)]; exact ⟨rfl, rfl⟩))
    (fun os started H enc _ => lifted os started H enc)
theorem proved : Rows.NarSizeSaid := over
#print axioms proved
end Go.Proofs.Ytnnpfahlfmeakaa.narSize
namespace Go.Proofs.Ytnnpfahlfmeakaa
/-- The row, under a short name, for the claim. -/
theorem narSize_holds : Rows.NarSizeSaid := narSize.proved
end Go.Proofs.Ytnnpfahlfmeakaa

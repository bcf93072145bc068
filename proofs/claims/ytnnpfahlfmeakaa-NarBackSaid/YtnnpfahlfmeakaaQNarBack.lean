/-
NarBack of chapter 09, outright: for every two trees that are handed in, cut as the law says, a tree that may be comes back from its bytes, and two that may be have the same bytes just if they are the same. No conditions.
-/
import Derived.Test.YtnnpfahlfmeakaaRows
import Derived.Test.YtnnpfahlfmeakaaQNarBack23
import Derived.Test.YtnnpfahlfmeakaaQNarBack30
import Derived.Test.YtnnpfahlfmeakaaQNarBack32
import Derived.Test.YtnnpfahlfmeakaaQNarBack33
import Derived.Test.YtnnpfahlfmeakaaQNarBack35
namespace Go.Proofs.Ytnnpfahlfmeakaa.narBack
open Go.ChangeShapes Go.WideShapes Go.ChangeAt Go.RowKit Go.Proofs.Ytnnpfahlfmeakaa Go.Proofs.Ytnnpfahlfmeakaa.PB
set_option linter.unusedVariables false
theorem same_f (x y : Tree) (hx : Fit x) (hy : Fit y) : tree_Same.f x.f0 x.f1 x.f2 x.f3 x.f4 y.f0 y.f1 y.f2 y.f3 y.f4 = some (sameP x y) := by
  cases x; cases y; exact if_pos ⟨hx, hy⟩
theorem encode_f (x : Tree) (hx : Fit x) (hz : Sized x) : nar_Encode.f x.f0 x.f1 x.f2 x.f3 x.f4 = some (encP x) := by
  cases x; exact if_pos ⟨hx, hz⟩
theorem key (x y : Tree) (fx : Fit x) (fy : Fit y) (m : Nat) : whisklaw09_NarBack.j0 (m + 2) (encP x).1 (encP x).2 (encP y).1 (encP y).2 false x.f0 x.f1 x.f2 x.f3 x.f4 y.f0 y.f1 y.f2 y.f3 y.f4 = some true := by
  rw [whisklaw09_NarBack.j0, if_neg (by decide)]
  by_cases h0 : (encP x).2 = 0
  · obtain ⟨a1, a2, a3⟩ := enc_ok x h0
    obtain ⟨b1, b2, b3, b4, b5⟩ := checkP_ok x a1
    have hd : decodeR (encP x).1 = (x, 0) := by unfold decodeR; rw [decode_enc x fx h0]
    have hf := decode_f (encP x).1 (by rw [a2]; show (magicB ++ nodeB x).size ≤ _; omega)
    rw [hd] at hf
    rw [if_pos h0, hf, Option.bind_some, if_pos rfl, same_f x x fx fx, Option.bind_some, sameP_refl x fx b3 b1, whisklaw09_NarBack.j1, if_neg (by decide)]
    by_cases h1 : (encP y).2 = 0
    · rw [if_pos h1, same_f x y fx fy, Option.bind_some, if_pos (by rw [enc_same x y fx fy h0 h1]; simp), works_f]
      rfl
    · rw [if_neg h1, works_f]
      rfl
  · rw [if_neg h0, enc_ne x h0, if_pos (by rw [tl_eq]), works_f]
    rfl
theorem pure (a b : Tree) (ha : Fit a) (hb : Fit b) : ∃ k, whisklaw09_NarBack.f k a.f0 a.f1 a.f2 a.f3 a.f4 b.f0 b.f1 b.f2 b.f3 b.f4 = some true := by
  obtain ⟨k0, h0⟩ := short_ev 13 a (by decide) ha
  obtain ⟨k1, h1⟩ := short_ev 13 b (by decide) hb
  have fx := shortP_fit 13 a ha
  have zx := shortP_sized 13 a
  have fy := shortP_fit 13 b hb
  have zy := shortP_sized 13 b
  generalize shortP 13 a = x at *
  generalize shortP 13 b = y at *
  obtain ⟨k2, h2⟩ := check_ev x fx zx
  refine ⟨max k0 (max k1 k2) + 2, ?_⟩
  have g0 := h0 (max k0 (max k1 k2) + 2) (by omega)
  have g1 := h1 (max k0 (max k1 k2) + 2) (by omega)
  have g2 := h2 (max k0 (max k1 k2) + 2) (by omega)
  generalize max k0 (max k1 k2) = m at *
  simp only [] at g0 g1 g2
  unfold whisklaw09_NarBack.f
  rw [show (13 : Int) = ((13 : Nat) : Int) from rfl, g0, Option.bind_some, g1, Option.bind_some]
  dsimp only
  rw [encode_f x fx zx, Option.bind_some, encode_f y fy zy, Option.bind_some, g2, Option.bind_some]
  have hk := key x y fx fy m
  by_cases h : (encP x).2 = checkP x
  · rw [if_pos h]; exact hk
  · have e3 : (encP x).2 = 3 ∧ checkP x = 0 := by
      unfold encP at h ⊢
      by_cases h5 : checkP x = 0
      · rw [if_pos h5] at h ⊢
        by_cases h6 : 60000 < (magicB ++ nodeB x).size
        · rw [if_pos h6]; exact ⟨rfl, h5⟩
        · rw [if_neg h6] at h; exact absurd h5.symm h
      · rw [if_neg h5] at h; exact absurd rfl h
    rw [if_neg h, if_pos e3.1, Option.bind_some, e3.2]
    exact hk
theorem own : ownKnob Try.prog.godebug = none := by kernel_rfl
set_option maxRecDepth 100000 in
theorem lifted (os : Os) (started : os.Started) (H : Type) (enc : TypeId × Value → H) :
    ReturnsInHanded {} Try.checked os 5 .any (Rows.narBackSpec.pre6 enc Try.prog Try.f5 Rows.narBackRow.domain false) (Rows.narBackSpec.post enc Try.prog Try.f5 false true false false) := by
  refine returnsInHanded_of_change_sized (C := Try.checked) own started (by kernel_rfl) Try.func5
    (ChangeSpec.witness6 (enc := enc) (C := Try.checked) false ⟨#[], #[.agg #[.string ByteArray.empty, .int .i64 0, .bool false, .string ByteArray.empty, .slice none 0 0], .agg #[.string ByteArray.empty, .int .i64 0, .bool false, .string ByteArray.empty, .slice none 0 0]], []⟩ 8 (by kernel_rfl) (by kernel_rfl) (by kernel_rfl) (by kernel_rfl)) ?_
  intro W base args ds gs before hval0 hW hcnd hsz0 _
  have hsz : (DataW.weightsEach Try.prog (Try.f5.params.toList ++ Rows.narBackSpec.plain.varTypes Try.prog) (ds ++ gs)).all (· ≤ reachBytes) = true := hsz0
  have hval : ∀ (j : Nat) t v, Try.f5.params[j]? = some t → args[j]? = some v → Value.okWide Try.prog W .any base t v := hval0
  have hW' := hW
  obtain ⟨p, q, hA0, hV, rfl, hfz, hnd⟩ := hW
  have hA : DataW.TrodAll enc Try.prog W 0 (fun _ => true) true Try.f5.params.toList args.toList ds p := hA0
  rw [Try.params5] at hA hval hsz
  obtain ⟨v0, v1, d0, d1, p0, p1, rfl, rfl, rfl, h0, h1⟩ := trodAll_two hA
  obtain ⟨rfl, rfl⟩ := trodVars_none hV
  have hw0 : ∀ n ∈ d0.weights Try.prog 24, n ≤ reachBytes := fun n hn => by
    have := List.all_eq_true.1 hsz n (DataW.weights_mem_each (j := 0) (t := 24) (d := d0) rfl rfl n hn)
    simpa using this
  have hw1 : ∀ n ∈ d1.weights Try.prog 24, n ≤ reachBytes := fun n hn => by
    have := List.all_eq_true.1 hsz n (DataW.weights_mem_each (j := 1) (t := 24) (d := d1) rfl rfl n hn)
    simpa using this
  obtain ⟨ta, A, c, rfl, hlc, hC, hF⟩ := node_of (hval 0 24 v0 rfl rfl) h0 hw0
  obtain ⟨tb, A', c', rfl, hlc', hC', hF'⟩ := node_of (hval 1 24 v1 rfl rfl) h1 hw1
  clear hA0 hval0 hsz0 hsz
  obtain ⟨k, hk⟩ := pure ta tb hF hF'
  refine (PB.whisklaw09_NarBack.calls k ta.f0 ta.f1 ta.f2 ta.f3 A c ta.f4 tb.f0 tb.f1 tb.f2 tb.f3 A' c' tb.f4 true W hC hlc hC' hlc' hk).mono fun e W' ⟨he, bel⟩ => ?_
  subst he
  exact ⟨_, rfl, _, _, _, [], _, [], hW', trodAll_mk1 (shut_bool Try.underlying4 _), trodAll_mk2 (node_kept h0 bel) (node_kept h1 bel), rfl, bel.frame _, fun h => by cases h⟩
theorem over : Rows.narBackRow.holds Try.pinned (OpenSpec.ofChange Rows.narBackSpec) :=
  OpenClaim.holds_of_wide 5 Try.f5 rfl rfl rfl rfl rfl rfl rfl ⟨rfl, rfl, rfl, rfl, rfl⟩ rfl rfl rfl rfl rfl (by kernel_rfl) Try.func5 (by kernel_rfl)
    (of_decide_eq_true (by kernel_rfl)) (by unfold Func.isWrapper; first | (rw [if_pos (by decide +kernel)]; kernel_rfl) | (rw [if_neg (by decide +kernel)]; exact ⟨rfl, rfl⟩))
    (fun os started H enc _ => lifted os started H enc)
theorem proved : Rows.NarBackSaid := over
#print axioms proved
end Go.Proofs.Ytnnpfahlfmeakaa.narBack
namespace Go.Proofs.Ytnnpfahlfmeakaa
/-- The row, under a short name, for the claim. -/
theorem narBack_holds : Rows.NarBackSaid := narBack.proved
end Go.Proofs.Ytnnpfahlfmeakaa

/-
NarLays of chapter 09, outright: for every tree that is handed in, cut as the law says, Encode tells the bytes (or the refusal) that the document tells, and the small example goes there and back. No conditions.
-/
import Derived.Test.YtnnpfahlfmeakaaRows
import Derived.Test.YtnnpfahlfmeakaaQNarLays32
import Derived.Test.YtnnpfahlfmeakaaQNarLays33
import Derived.Test.YtnnpfahlfmeakaaQNarLays34
import Derived.Test.YtnnpfahlfmeakaaQNarLays35
import Derived.Test.YtnnpfahlfmeakaaQNarLays37
namespace Go.Proofs.Ytnnpfahlfmeakaa.narLays
open Go.ChangeShapes Go.WideShapes Go.ChangeAt Go.RowKit Go.Proofs.Ytnnpfahlfmeakaa Go.Proofs.Ytnnpfahlfmeakaa.PB
set_option linter.unusedVariables false
theorem pure (t : Tree) (hf : Fit t) : ∃ k, whisklaw09_NarLays.f k t.f0 t.f1 t.f2 t.f3 t.f4 = some true := by
  have s1 := short_ev 14 t (Nat.le_refl _) hf
  have f1 := shortP_fit 14 t hf
  have z1 := shortP_sized 14 t
  have a1 := refEncode_ev (shortP 14 t) f1 z1
  have a2 : nar_Encode.f (shortP 14 t).f0 (shortP 14 t).f1 (shortP 14 t).f2 (shortP 14 t).f3 (shortP 14 t).f4 = some (encP (shortP 14 t)) := by
    generalize shortP 14 t = q at *
    cases q
    exact if_pos ⟨f1, z1⟩
  obtain ⟨k0, h0⟩ := s1
  obtain ⟨k1, h1⟩ := a1
  refine ⟨max k0 k1, ?_⟩
  have h2 := h0 (max k0 k1) (by omega)
  have h3 := h1 (max k0 k1) (by omega)
  simp only [] at h2 h3
  unfold whisklaw09_NarLays.f
  rw [show (14 : Int) = ((14 : Nat) : Int) from rfl, h2]
  simp only [Option.bind_some]
  rw [a2]
  simp only [Option.bind_some]
  rw [h3]
  simp only [Option.bind_some, if_true]
  rw [works_f]
  rfl
theorem own : ownKnob Try.prog.godebug = none := by kernel_rfl
set_option maxRecDepth 100000 in
theorem lifted (os : Os) (started : os.Started) (H : Type) (enc : TypeId × Value → H) :
    ReturnsInHanded {} Try.checked os 3 .any (Rows.narLaysSpec.pre6 enc Try.prog Try.f3 Rows.narLaysRow.domain false) (Rows.narLaysSpec.post enc Try.prog Try.f3 false true false false) := by
  refine returnsInHanded_of_change_sized (C := Try.checked) own started (by kernel_rfl) Try.func3
    (ChangeSpec.witness6 (enc := enc) (C := Try.checked) false ⟨#[], #[.agg #[.string ByteArray.empty, .int .i64 0, .bool false, .string ByteArray.empty, .slice none 0 0]], []⟩ 8 (by kernel_rfl) (by kernel_rfl) (by kernel_rfl) (by kernel_rfl)) ?_
  intro W base args ds gs before hval0 hW hcnd hsz0 _
  have hsz : (DataW.weightsEach Try.prog (Try.f3.params.toList ++ Rows.narLaysSpec.plain.varTypes Try.prog) (ds ++ gs)).all (· ≤ reachBytes) = true := hsz0
  have hval : ∀ (j : Nat) t v, Try.f3.params[j]? = some t → args[j]? = some v → Value.okWide Try.prog W .any base t v := hval0
  have hW' := hW
  obtain ⟨p, q, hA0, hV, rfl, hfz, hnd⟩ := hW
  have hA : DataW.TrodAll enc Try.prog W 0 (fun _ => true) true Try.f3.params.toList args.toList ds p := hA0
  rw [Try.params3] at hA hval hsz
  obtain ⟨v0, vs0, d0, ds0, p0, q0, hargs, rfl, rfl, h0, r0⟩ := trodAll_cons hA
  obtain ⟨rfl, rfl, rfl⟩ := trodAll_nil r0
  obtain rfl : args = #[v0] := by cases args; simp_all
  obtain ⟨rfl, rfl⟩ := trodVars_none hV
  have hw0 : ∀ n ∈ d0.weights Try.prog 24, n ≤ reachBytes := fun n hn => by
    have := List.all_eq_true.1 hsz n (DataW.weights_mem_each (j := 0) (t := 24) (d := d0) rfl rfl n hn)
    simpa using this
  obtain ⟨tt, A, c, rfl, hlc, hC, hF⟩ := node_of (hval 0 24 v0 rfl rfl) h0 hw0
  clear hA0 hval0 hsz0 hsz
  obtain ⟨k, hk⟩ := pure tt hF
  refine (PB.whisklaw09_NarLays.calls k tt.f0 tt.f1 tt.f2 tt.f3 A c tt.f4 true W hC hlc hk).mono fun e W' ⟨he, bel⟩ => ?_
  subst he
  exact ⟨_, rfl, _, _, _, [], _, [], hW', trodAll_mk1 (shut_bool Try.underlying4 _), (trodAll_cons_mk (node_kept h0 bel) trodAll_mk0), rfl, bel.frame _, fun h => by cases h⟩
theorem over : Rows.narLaysRow.holds Try.pinned (OpenSpec.ofChange Rows.narLaysSpec) :=
  OpenClaim.holds_of_wide 3 Try.f3 rfl rfl rfl rfl rfl rfl rfl ⟨rfl, rfl, rfl, rfl, rfl⟩ rfl rfl rfl rfl rfl (by kernel_rfl) Try.func3 (by kernel_rfl)
    (of_decide_eq_true (by kernel_rfl)) (by unfold Func.isWrapper; first | (rw [if_pos (by decide +kernel)]; kernel_rfl) | (rw [if_neg (by decide +kernel)]; exact ⟨rfl, rfl⟩))
    (fun os started H enc _ => lifted os started H enc)
theorem proved : Rows.NarLaysSaid := over
#print axioms proved
end Go.Proofs.Ytnnpfahlfmeakaa.narLays
namespace Go.Proofs.Ytnnpfahlfmeakaa
/-- The row, under a short name, for the claim. -/
theorem narLays_holds : Rows.NarLaysSaid := narLays.proved
end Go.Proofs.Ytnnpfahlfmeakaa

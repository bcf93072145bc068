import Derived.WalkKit
import Derived.ProofKit
import Derived.OpenShut
import Derived.ShutString
import Derived.ChangeOld
import Derived.Below
import Derived.SizedLaws
import Derived.ChangeArms
import Derived.Deep.Slices
import Derived.Carry
import Derived.DataReads
import Derived.Test.YtalljcjignaafaaDoorQTreePaths8
namespace Go.Proofs.YtalljcjignaafaaDoor
open Go.RowKit Go.Proofs.YtalljcjignaafaaDoor.PB Go.Proofs.YtalljcjignaafaaDoorW.PrintWords
set_option linter.unusedVariables false
set_option linter.unusedSimpArgs false
theorem laidOut : laidOutB Tryd.prog = true := by kernel_rfl
theorem all_str {H : Type} {P : Program} {t : TypeId} {bytes : List UInt8} (h : ∀ n ∈ (DataW.lit (.string bytes) : DataW H).weights P t, n ≤ reachBytes) : bytes.length ≤ 140737488351232 :=
  h bytes.length (by simp [DataW.weights])
theorem weightsAll_mem {H : Type} {P : Program} {e : TypeId} : ∀ {l : List (DataW H)} {d : DataW H}, d ∈ l → ∀ n ∈ d.weights P e, n ∈ DataW.weightsAll P e l
  | x :: r, d, hd, n, hn => by
    simp only [DataW.weightsAll, List.mem_append]
    rcases List.mem_cons.1 hd with rfl | hd
    · exact .inl hn
    · exact .inr (weightsAll_mem hd n hn)
set_option maxRecDepth 100000 in
theorem nodes_of {H : Type} {enc : TypeId × Value → H} {W : World} : ∀ (fuel : Nat) (cs : List Value) (x : DataW H × List MemPlace), DataW.trod enc Tryd.prog W 0 (fun _ => true) true fuel 24 cs = some x → (∀ n ∈ x.1.weights Tryd.prog 24, n ≤ reachBytes) →
    ∃ (t : Tree) (A : Option Addr) (c : Nat), cs = [.string t.f0, .int .i64 t.f1, .bool t.f2, .string t.f3, .slice A t.f4.length c] ∧ t.f4.length ≤ c ∧ Kd.C k24 W A t.f4.length t.f4 ∧ Fit t := by
  intro fuel
  induction fuel using Nat.strongRecOn with
  | ind fuel ih =>
  intro cs x h hw
  obtain ⟨xs, n, rfl, rfl, hl, hlen, hf⟩ := DataW.trod_struct Tryd.underlying24 h
  have hc : Tryd.prog.cellsOf 24 = 5 := by kernel_rfl
  have c0 : Tryd.prog.cellsOf 9 = 1 := by kernel_rfl
  have c1 : Tryd.prog.cellsOf 3 = 1 := by kernel_rfl
  have c2 : Tryd.prog.cellsOf 4 = 1 := by kernel_rfl
  have c3 : Tryd.prog.cellsOf 22 = 1 := by kernel_rfl
  have hl5 : cs.length = 5 := hl.trans hc
  match xs, hlen with
  | [y0, y1, y2, y3, y4], _ =>
  match cs, hl5 with
  | [u0, u1, u2, u3, u4], _ =>
  have g0 : DataW.trod enc Tryd.prog W 0 (fun _ => true) true n 9 (([u0, u1, u2, u3, u4].drop 0).take (Tryd.prog.cellsOf 9)) = some y0 := hf 0 _ rfl
  rw [c0] at g0
  have g1 : DataW.trod enc Tryd.prog W 0 (fun _ => true) true n 3 (([u0, u1, u2, u3, u4].drop 1).take (Tryd.prog.cellsOf 3)) = some y1 := hf 1 _ rfl
  rw [c1] at g1
  have g2 : DataW.trod enc Tryd.prog W 0 (fun _ => true) true n 4 (([u0, u1, u2, u3, u4].drop 2).take (Tryd.prog.cellsOf 4)) = some y2 := hf 2 _ rfl
  rw [c2] at g2
  have g3 : DataW.trod enc Tryd.prog W 0 (fun _ => true) true n 9 (([u0, u1, u2, u3, u4].drop 3).take (Tryd.prog.cellsOf 9)) = some y3 := hf 3 _ rfl
  rw [c0] at g3
  have g4 : DataW.trod enc Tryd.prog W 0 (fun _ => true) true n 22 (([u0, u1, u2, u3, u4].drop 4).take (Tryd.prog.cellsOf 22)) = some y4 := hf 4 _ rfl
  rw [c3] at g4
  obtain ⟨s0, e0, f0, z0⟩ := DataW.trod_string Tryd.underlying9 (show DataW.trod enc Tryd.prog W 0 (fun _ => true) true n 9 [u0] = some y0 from g0)
  obtain ⟨s1, e1, f1, z1⟩ := DataW.trod_int Tryd.underlying3 (show DataW.trod enc Tryd.prog W 0 (fun _ => true) true n 3 [u1] = some y1 from g1)
  obtain ⟨s2, e2, f2⟩ := DataW.trod_bool Tryd.underlying4 (show DataW.trod enc Tryd.prog W 0 (fun _ => true) true n 4 [u2] = some y2 from g2)
  obtain ⟨s3, e3, f3, z3⟩ := DataW.trod_string Tryd.underlying9 (show DataW.trod enc Tryd.prog W 0 (fun _ => true) true n 9 [u3] = some y3 from g3)
  injection e0 with e0; subst e0
  injection e1 with e1; subst e1
  injection e2 with e2; subst e2
  injection e3 with e3; subst e3
  subst f0; subst f1; subst f2; subst f3
  have hwk : ∀ (j : Nat) (t : TypeId) (d : DataW H), [9, 3, 4, 9, 22][j]? = some t → [(DataW.lit (.string s0.data.toList) : DataW H), .lit (.int .i64 s1), .lit (.bool s2), .lit (.string s3.data.toList), y4.1][j]? = some d → ∀ n ∈ d.weights Tryd.prog t, n ≤ reachBytes := by
    intro j t d ht hd n hn
    refine hw n ?_
    show n ∈ (DataW.agg [(DataW.lit (.string s0.data.toList) : DataW H), .lit (.int .i64 s1), .lit (.bool s2), .lit (.string s3.data.toList), y4.1]).weights Tryd.prog 24
    simp only [DataW.weights, Tryd.underlying24]
    exact DataW.weights_mem_each ht hd n hn
  have w0 : s0.size ≤ 140737488351232 := all_str (hwk 0 _ _ rfl rfl)
  have w3 : s3.size ≤ 140737488351232 := all_str (hwk 3 _ _ rfl rfl)
  have w1 : -9223372036854775808 ≤ s1 ∧ s1 ≤ 9223372036854775807 := by
    have hz : (decide (IntKind.i64.min ≤ s1) && decide (s1 ≤ IntKind.i64.max)) = true := z1
    simp only [Bool.and_eq_true, decide_eq_true_eq] at hz
    exact ⟨hz.1, hz.2⟩
  have w4 := hwk 4 _ _ rfl rfl
  rcases DataW.trod_slice Tryd.underlying22 (show DataW.trod enc Tryd.prog W 0 (fun _ => true) true n 22 [u4] = some y4 from g4) with ⟨e4, f4⟩ | ⟨a, len, cap, elems, rest, m, hm, e4, f4, hb, hlc, hm2, hle, hel, -, -⟩
  · injection e4 with e4; subst e4
    exact ⟨⟨s0, s1, s2, s3, []⟩, none, 0, rfl, Nat.le_refl _, ⟨rfl, by simp, fun h => by simp at h⟩, Fit.mk _ w0 w1 w3 (by simp) (fun k hk => by cases hk)⟩
  · injection e4 with e4; subst e4
    rw [f4] at w4
    simp only [DataW.weights, Tryd.underlying22] at w4
    have b72 : Tryd.prog.bytesOf 24 = 72 := by kernel_rfl
    have hlen2 : len * 72 ≤ 140737488351232 := by
      have := w4 _ (List.mem_cons_self ..)
      rw [b72] at this
      simp only [List.length_map, hle] at this
      have : (len + rest.length) * 72 ≤ 140737488351232 := this
      omega
    have hkids : ∀ i, ∃ t : Tree, i < len → ∃ (A : Option Addr) (c : Nat) (cs' : List Value), W.cells? 0 (a.add (i * 5)) 5 = some cs' ∧ cs' = [.string t.f0, .int .i64 t.f1, .bool t.f2, .string t.f3, .slice A t.f4.length c] ∧ t.f4.length ≤ c ∧ Kd.C k24 W A t.f4.length t.f4 ∧ Fit t := by
      intro i
      by_cases hi : i < len
      · have h1 := hel i hi
        rw [hc, List.getElem?_eq_getElem (by omega)] at h1
        obtain ⟨cs', h2, h3⟩ := Option.bind_eq_some_iff.1 h1
        obtain ⟨t, A, c, q1, q2, q3, q4⟩ := ih m (by omega) cs' _ h3 (fun n hn => w4 n (List.mem_cons_of_mem _ (List.mem_append.2 (.inl (weightsAll_mem (List.mem_map.2 ⟨_, List.getElem_mem (by omega), rfl⟩) n hn)))))
        exact ⟨t, fun _ => ⟨A, c, cs', h2, q1, q2, q3, q4⟩⟩
      · exact ⟨z24, fun h => absurd h hi⟩
    obtain ⟨F, hF⟩ := Classical.axiomOfChoice hkids
    have hL : ((List.range len).map F).length = len := by simp
    refine ⟨⟨s0, s1, s2, s3, (List.range len).map F⟩, some a, cap, by rw [hL], by rw [hL]; exact hlc, ⟨by simp, by rw [hL]; omega, fun _ => ⟨a, rfl, ?_⟩⟩, Fit.mk _ w0 w1 w3 (by rw [hL]; omega) ?_⟩
    · intro j p hj
      have hj2 : j < len ∧ F j = p := by
        obtain ⟨h1, h2⟩ := List.getElem?_eq_some_iff.1 hj
        have h3 : j < len := by rw [← hL]; exact h1
        refine ⟨h3, ?_⟩
        rw [← h2, List.getElem_map, List.getElem_range]
      obtain ⟨hjl, rfl⟩ := hj2
      obtain ⟨A, c, cs', q0, q1, q2, q3, q4⟩ := hF j hjl
      obtain ⟨r1, r2, r3⟩ := World.cells?_some q0
      refine ⟨cs', r2, ?_, ?_⟩
      · rw [q1]; exact k24_mk W (F j) q2 q3
      · intro i u hu
        have hi5 : i < 5 := by rw [← r2]; exact (List.getElem?_eq_some_iff.1 hu).1
        rw [← hu, ← r3 i hi5]
        show W.cell? (a.add (j * 5 + i)) = W.cell? ((a.add (j * 5)).add i)
        congr 1
        cases i with
        | zero => simp [Addr.add]
        | succ i => rw [add_field _ _ _ (by omega)]; simp [Addr.add]
    · intro k hk
      obtain ⟨j, hj, rfl⟩ := List.mem_map.1 hk
      exact (hF j (by simpa using hj)).choose_spec.choose_spec.choose_spec.2.2.2.2
set_option maxRecDepth 100000 in
theorem node_of {H : Type} {enc : TypeId × Value → H} {W : World} {base : Nat} {v : Value} {d : DataW H} {ps : List MemPlace} (hval : Value.okWide Tryd.prog W .any base 24 v) (h : DataW.Trod enc Tryd.prog W 0 (fun _ => true) true 24 v d ps) (hw : ∀ n ∈ d.weights Tryd.prog 24, n ≤ reachBytes) :
    ∃ (t : Tree) (A : Option Addr) (c : Nat), v = .agg #[.string t.f0, .int .i64 t.f1, .bool t.f2, .string t.f3, .slice A t.f4.length c] ∧ t.f4.length ≤ c ∧ Kd.C k24 W A t.f4.length t.f4 ∧ Fit t := by
  obtain ⟨fuel, h⟩ := h
  unfold Value.okWide at hval
  rw [Tryd.underlying24] at hval
  obtain ⟨cs, rfl, hsz, -⟩ := hval
  obtain ⟨t, A, c, e, h1, h2, h3⟩ := nodes_of fuel _ _ h hw
  refine ⟨t, A, c, ?_, h1, h2, h3⟩
  have e2 : cs.toList = [.string t.f0, .int .i64 t.f1, .bool t.f2, .string t.f3, .slice A t.f4.length c] := e
  congr 1
  rw [← Array.toList_inj, e2]
set_option maxRecDepth 100000 in
theorem node_kept {H : Type} {enc : TypeId × Value → H} {W W' : World} {v : Value} {d : DataW H} {ps : List MemPlace} (h : DataW.Trod enc Tryd.prog W 0 (fun _ => true) true 24 v d ps) (hb : Below W.heap.size W W') :
    DataW.Trod enc Tryd.prog W' 0 (fun b => decide (b < W.heap.size)) true 24 v d ps := by
  have hlt : ∀ x ∈ ps, x.block < W.heap.size := by
    obtain ⟨fuel, h⟩ := h
    exact DataW.trod_lt fuel _ _ _ h
  exact Below.trod laidOut (by kernel_rfl) (of_decide_eq_true (by kernel_rfl)) h hb hlt
end Go.Proofs.YtalljcjignaafaaDoor

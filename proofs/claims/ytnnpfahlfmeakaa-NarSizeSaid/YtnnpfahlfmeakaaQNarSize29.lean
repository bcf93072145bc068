import Derived.Defers
import Derived.Recover
import Derived.Test.YtnnpfahlfmeakaaQNarSize28
namespace Go.Proofs.Ytnnpfahlfmeakaa.PB
open Go.RowKit Go.Proofs.Ytnnpfahlfmeakaa Go.Proofs.YtnnpfahlfmeakaaW.PrintWords Go.Proofs.YtnnpfahlfmeakaaW.PrintLast
set_option linter.unusedVariables false
set_option linter.unusedSimpArgs false
theorem node_set {p0 : Nat} {a0 a3 : ByteArray} {a1 : Int} {a2 : Bool} {v c0 c1 c2 c3 c4 : Value} {w8 : World} (Z8 : w8.heap[p0]? = some (.cells #[c0, c1, c2, c3, c4] 24 (0, 0))) :
    NAt (((((w8.setCell ⟨p0, 0, none⟩ (.string a0)).setCell ⟨p0, 1, none⟩ (.int .i64 a1)).setCell ⟨p0, 2, none⟩ (.bool a2)).setCell ⟨p0, 3, none⟩ (.string a3)).setCell ⟨p0, 4, none⟩ v) p0 a0 a1 a2 a3 v := by
  have s0 := (blk_store (l := [_, _, _, _, _]) Z8 0 (.string a0)).trans rfl
  have s1 := (blk_store (l := [_, _, _, _, _]) s0 1 (.int .i64 a1)).trans rfl
  have s2 := (blk_store (l := [_, _, _, _, _]) s1 2 (.bool a2)).trans rfl
  have s3 := (blk_store (l := [_, _, _, _, _]) s2 3 (.string a3)).trans rfl
  exact (blk_store (l := [_, _, _, _, _]) s3 4 v).trans rfl
theorem catch_idle (p0 p1 : Addr) (w : World) :
    CallsD Try.prog 26 #[.pointer (some p0), .pointer (some p1)] .returning w fun e u' w' => e = .returned (.tuple #[]) ∧ u' = .returning ∧ w' = w := by
  refine callsD_of_wpS Try.func26 rfl fun c₀ cs hu => ?_
  apply wpS_seq
  apply wpS_region
  simp [wpOpsS, go_sem, recoverD, hu, Try.ntmps26, Exit.thenS]
  rw [show #[Value.pointer (some p0), .pointer (some p1)] ++ ((Array.replicate 15 undef).setIfInBounds 3 .nilIface).setIfInBounds 0 .nilIface = #[.pointer (some p0), .pointer (some p1), .nilIface, undef, undef, .nilIface, undef, undef, undef, undef, undef, undef, undef, undef, undef, undef, undef] from rfl]
  refine wpS_of_wp ?_
  go_wp2
  cases c₀
  simp_all [bodyPostS, results, Try.results26]
set_option maxRecDepth 100000 in
theorem catch_wrong (p0 p1 : Nat) (w : World) (c0 : ByteArray) (c1 : Int) (c2 : Bool) (c3 : ByteArray) (c4 : Value) (ee : Int) (hn : NAt w p0 c0 c1 c2 c3 c4) (he : w.heap[p1]? = some (.cells #[.int .i64 ee] 26 (0, 0))) (hne : p0 ≠ p1) :
    CallsD Try.prog 26 #[.pointer (some ⟨p0, 0, none⟩), .pointer (some ⟨p1, 0, none⟩)] (.panicking wrongE) w fun e u' w' => e = .returned (.tuple #[]) ∧ u' = .panicking [{ v := .iface 51 (.agg #[]), recovered := true }] ∧
      NAt w' p0 ⟨#[]⟩ 0 false ⟨#[]⟩ (.slice none 0 0) ∧ w'.heap[p1]? = some (.cells #[.int .i64 4] 26 (0, 0)) ∧ ∀ B, B ≤ p0 → B ≤ p1 → B ≤ w.heap.size → Below B w w' := by
  unfold wrongE
  have hu51 := Try.underlying51
  have hu24 := Try.underlying24
  have hne' := Ne.symm hne
  have AB := below_alloc (Below.refl _ w) (.cells #[] 51)
  have HN := Aside0.mk (show NAt (w.alloc (.cells #[] 51)) p0 c0 c1 c2 c3 c4 from blk_below hn AB)
  have HE := Aside0.mk (show (w.alloc (.cells #[] 51)).heap[p1]? = some (.cells #[.int .i64 ee] 26 (0, 0)) from blk_below he AB)
  have z0 := (blk_cell HN.out 0).trans (rfl : _ = some (Value.string c0))
  have z1 := (blk_cell HN.out 1).trans (rfl : _ = some (Value.int .i64 c1))
  have z2 := (blk_cell HN.out 2).trans (rfl : _ = some (Value.bool c2))
  have z3 := (blk_cell HN.out 3).trans (rfl : _ = some (Value.string c3))
  have z4 := (blk_cell HN.out 4).trans (rfl : _ = some c4)
  have y0 := blk_nofreeze HN.out 0
  have y1 := blk_nofreeze HN.out 1
  have y2 := blk_nofreeze HN.out 2
  have y3 := blk_nofreeze HN.out 3
  have y4 := blk_nofreeze HN.out 4
  have x0 := (blk_cell HE.out 0).trans (rfl : _ = some (Value.int .i64 ee))
  have x1 := blk_nofreeze HE.out 0
  clear AB hn he
  have hta : ∀ W : World, (Instr.typeAssert (.iface 51 (.agg #[])) 20 51 true).run Try.prog W = .ok (.tuple #[.agg #[], .bool true]) W := fun W => by kernel_rfl
  refine callsD_of_wpS Try.func26 rfl fun c₀ cs hu => ?_
  apply wpS_seq
  apply wpS_region
  simp [wpOpsS, go_sem, recoverD, hu, Try.ntmps26, Exit.thenS]
  rw [show #[Value.pointer (some ⟨p0, 0, none⟩), .pointer (some ⟨p1, 0, none⟩)] ++ ((Array.replicate 15 undef).setIfInBounds 3 (.iface 51 (.agg #[]))).setIfInBounds 0 (.iface 51 (.agg #[])) = #[.pointer (some ⟨p0, 0, none⟩), .pointer (some ⟨p1, 0, none⟩), (.iface 51 (.agg #[])), undef, undef, (.iface 51 (.agg #[])), undef, undef, undef, undef, undef, undef, undef, undef, undef, undef, undef] from rfl]
  refine wpS_of_wp ?_
  go_wp2
  have FN := node_set (a0 := ⟨#[]⟩) (a1 := 0) (a2 := false) (a3 := ⟨#[]⟩) (v := .slice none 0 0) HN.out
  have FE : ∀ i, i ≠ p0 → (((((((w.alloc (.cells #[] 51)).setCell ⟨p0, 0, none⟩ (.string ⟨#[]⟩)).setCell ⟨p0, 1, none⟩ (.int .i64 0)).setCell ⟨p0, 2, none⟩ (.bool false)).setCell ⟨p0, 3, none⟩ (.string ⟨#[]⟩)).setCell ⟨p0, 4, none⟩ (.slice none 0 0))).heap[i]? = (w.alloc (.cells #[] 51)).heap[i]? := fun i hi =>
    (Below.heap_setCell _ ⟨p0, 4, none⟩ _ i hi).trans ((Below.heap_setCell _ ⟨p0, 3, none⟩ _ i hi).trans ((Below.heap_setCell _ ⟨p0, 2, none⟩ _ i hi).trans ((Below.heap_setCell _ ⟨p0, 1, none⟩ _ i hi).trans (Below.heap_setCell _ ⟨p0, 0, none⟩ _ i hi))))
  have FE1 := (FE p1 (Ne.symm hne)).trans HE.out
  have post1 := (Below.heap_setCell _ ⟨p1, 0, none⟩ (.int .i64 4) p0 hne).trans FN
  have post2 := (blk_store (l := [_]) FE1 0 (.int .i64 4)).trans rfl
  simp only [bodyPostS, results, Try.results26]
  have AB := below_alloc (Below.refl w.heap.size w) (.cells #[] 51)
  refine ⟨trivial, _, rfl, .tuple #[], by simp, rfl, rfl, post1, post2, fun B h0 h1 hw => ?_⟩
  have A2 : Below B w (w.alloc (.cells #[] 51)) := ⟨AB.os, AB.tape, AB.output, AB.size, fun k hk => AB.block k (Nat.lt_of_lt_of_le hk hw)⟩
  exact (((((A2.setCell (by exact h0) _).setCell (by exact h0) _).setCell (by exact h0) _).setCell (by exact h0) _).setCell (by exact h0) _).setCell (by exact h1) _
end Go.Proofs.Ytnnpfahlfmeakaa.PB

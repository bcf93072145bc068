import Derived.MapKept
import Derived.WideMake
import Derived.Test.YtnnpfahlfmeakaaQNarSize7
import Derived.Test.YtnnpfahlfmeakaaQNarSize10
namespace Go.Proofs.Ytnnpfahlfmeakaa
open Go Go.RowKit Go.Proofs.YtnnpfahlfmeakaaW.PrintWords Go.Proofs.YtnnpfahlfmeakaaW.PrintLast
/-- The world with another object at a block. -/
def setAt (W : World) (b : Nat) (o : Obj) : World := { W with heap := W.heap.setIfInBounds b o }
theorem setAt_at {W : World} {b : Nat} {o : Obj} (h : W.heap[b]? = some o) (o' : Obj) : (setAt W b o').heap[b]? = some o' := by
  have hb : b < W.heap.size := by
    rcases Nat.lt_or_ge b W.heap.size with h' | h'
    · exact h'
    · rw [Array.getElem?_eq_none h'] at h; cases h
  simp [setAt, hb]
theorem setAt_below {w W : World} {b : Nat} (hb : w.heap.size ≤ b) (h : Below w.heap.size w W) (o : Obj) : Below w.heap.size w (setAt W b o) :=
  ⟨h.os, h.tape, h.output, by simp only [setAt, Array.size_setIfInBounds]; exact h.size, fun k hk => by
    rw [← h.block k hk]; simp only [setAt]; exact Array.getElem?_setIfInBounds_ne (by omega)⟩
theorem heap_alloc_newO (W : World) (o : Obj) : (W.alloc o).heap[W.heap.size]? = some o := Array.getElem?_push_size
variable {P : Program}
theorem run_update_new {mty kt et : TypeId} {d : TypeDesc} {r clock : Nat} {es : Array MapEntry} {key val : Value} {w : World} (hm : P.underlying mty = some (.map kt et)) (hd : P.underlying kt = some d) (hk : MapKept.IsKey d key)
    (hb : w.heap[r]? = some (.map es clock)) (hf : Instr.findNow d key es.toList 0 = some none) :
    (Instr.mapUpdate mty (.map (some r)) key val).run P w = .ok () (setAt w r (.map (es.push ⟨key, val, clock⟩) (clock + 1))) := by
  have hc := MapKept.run_checkKey (w := w) hd hk false 9999
  simp [Instr.mapUpdate, run_underlying hm, MapKept.run_getObj_map hb, hc, MapKept.run_findKey hd hf, MapKept.run_setObj_map _ hb, Result.andThen, setAt]
theorem run_lookup_hit {mty kt et : TypeId} {d : TypeDesc} {r clock i : Nat} {es : Array MapEntry} {key val : Value} {w : World} (ok : Bool) (hm : P.underlying mty = some (.map kt et)) (hd : P.underlying kt = some d) (hk : MapKept.IsKey d key)
    (hb : w.heap[r]? = some (.map es clock)) (hf : Instr.findNow d key es.toList 0 = some (some (i, val))) :
    (Instr.lookup mty (.map (some r)) key ok).run P w = .ok (if ok then .tuple #[val, .bool true] else val) w := by
  have hc := MapKept.run_checkKey (w := w) hd hk es.isEmpty 9999
  simp [Instr.lookup, run_underlying hm, MapKept.run_getObj_map hb, hc, MapKept.run_findKey hd hf, Result.andThen]
theorem run_lookup_miss {mty kt et : TypeId} {d : TypeDesc} {r clock : Nat} {es : Array MapEntry} {key z : Value} {w : World} (ok : Bool) (hm : P.underlying mty = some (.map kt et)) (hd : P.underlying kt = some d) (hk : MapKept.IsKey d key)
    (hb : w.heap[r]? = some (.map es clock)) (hf : Instr.findNow d key es.toList 0 = some none) (hz : (zeroValue et).run P w = .ok z w) :
    (Instr.lookup mty (.map (some r)) key ok).run P w = .ok (if ok then .tuple #[z, .bool false] else z) w := by
  have hc := MapKept.run_checkKey (w := w) hd hk es.isEmpty 9999
  simp [Instr.lookup, run_underlying hm, MapKept.run_getObj_map hb, hc, MapKept.run_findKey hd hf, Result.andThen, hz]
theorem run_makeMap_any (t : TypeId) (W : World) : (Instr.makeMap t none).run P W = .ok (.map (some W.heap.size)) (W.alloc (.map #[] 0)) := by simp [Instr.makeMap]
/-- A map with three keys is laid. -/
theorem map3 {mty kt et : TypeId} (hm : P.underlying mty = some (.map kt et)) (hd : P.underlying kt = some (.int .i64)) (k1 k2 k3 : Int) (h12 : k1 ≠ k2) (h13 : k1 ≠ k3) (h23 : k2 ≠ k3) (v1 v2 v3 : Value) (W : World) :
    ∃ W5 W6 W7, (Instr.mapUpdate mty (.map (some W.heap.size)) (.int .i64 k1) v1).run P (W.alloc (.map #[] 0)) = .ok () W5 ∧
      (Instr.mapUpdate mty (.map (some W.heap.size)) (.int .i64 k2) v2).run P W5 = .ok () W6 ∧ (Instr.mapUpdate mty (.map (some W.heap.size)) (.int .i64 k3) v3).run P W6 = .ok () W7 ∧
      Below W.heap.size W W7 ∧ W7.heap[W.heap.size]? = some (.map #[⟨.int .i64 k1, v1, 0⟩, ⟨.int .i64 k2, v2, 1⟩, ⟨.int .i64 k3, v3, 2⟩] 3) := by
  have b0 : Below W.heap.size W (W.alloc (.map #[] 0)) := below_alloc (Below.refl _ W) _
  have a0 := heap_alloc_newO W (.map #[] 0)
  have a1 := setAt_at a0 (.map #[⟨.int .i64 k1, v1, 0⟩] 1)
  have a2 := setAt_at a1 (.map #[⟨.int .i64 k1, v1, 0⟩, ⟨.int .i64 k2, v2, 1⟩] 2)
  have a3 := setAt_at a2 (.map #[⟨.int .i64 k1, v1, 0⟩, ⟨.int .i64 k2, v2, 1⟩, ⟨.int .i64 k3, v3, 2⟩] 3)
  have n12 : (k2 == k1) = false := beq_eq_false_iff_ne.mpr (Ne.symm h12)
  have n13 : (k3 == k1) = false := beq_eq_false_iff_ne.mpr (Ne.symm h13)
  have n23 : (k3 == k2) = false := beq_eq_false_iff_ne.mpr (Ne.symm h23)
  refine ⟨_, _, _, run_update_new hm hd (by simp [MapKept.IsKey]) a0 rfl, run_update_new hm hd (by simp [MapKept.IsKey]) a1 (by simp [Instr.findNow, Instr.sameNow, n12]), run_update_new hm hd (by simp [MapKept.IsKey]) a2 (by simp [Instr.findNow, Instr.sameNow, n13, n23]), ?_, a3⟩
  exact setAt_below (Nat.le_refl _) (setAt_below (Nat.le_refl _) (setAt_below (Nat.le_refl _) b0 _) _) _
end Go.Proofs.Ytnnpfahlfmeakaa

import Derived.Laws.BytesArg
import Derived.WalkKit
import Derived.Deep.Quiet
import Derived.BigQuiet
import Derived.Test.YtalljcjignaafaaDoorProg
import Derived.Test.YtalljcjignaafaaDoorQTreeKnown6
namespace Go.Proofs.YtalljcjignaafaaDoor
open Go.RowKit Go.Proofs.YtalljcjignaafaaDoorW.PrintWords
set_option linter.unusedVariables false
set_option linter.unusedSimpArgs false
theorem blk_of_cells {w : World} {b T : Nat} {l : List Value} (h : w.heap[b]? = some (.cells l.toArray T (0, 0))) (j : Nat) (v : Value) (hv : l[j]? = some v) : w.cell? ⟨b, j, none⟩ = some v := by
  simp [World.cell?, h, hv]
theorem blk_nofreeze {w : World} {b T : Nat} {l : Array Value} (h : w.heap[b]? = some (.cells l T (0, 0))) (j : Nat) : w.frozen? ⟨b, j, none⟩ = false := by
  simp [World.frozen?, h]
theorem blk_store {w : World} {b T : Nat} {l : List Value} (h : w.heap[b]? = some (.cells l.toArray T (0, 0))) (j : Nat) (v : Value) : (w.setCell ⟨b, j, none⟩ v).heap[b]? = some (.cells (l.set j v).toArray T (0, 0)) := by
  simp only [World.setCell, Array.getElem?_modify, ↓reduceIte, h]
  simp
/-- The worlds that may come of w while a call goes on that writes nothing that lay in w. -/
structure EW (w : World) where
  v : World
  h : Below w.heap.size w v
instance EW.any (w : World) : Nonempty (EW w) := ⟨⟨w, Below.refl _ _⟩⟩
theorem EW.cell {w : World} {a : Addr} {u : Value} (h : w.cell? a = some u) : ∀ x : EW w, x.v.cell? a = some u := fun x => pw_cell_below x.h h
/-- A region that draws its order, reads, and calls what only makes memory: one walk serves every order. -/
theorem wp_region_ext {P : Program} {id : Nat} {Q : Exit → Act → World → Prop} {a : Act} {w : World} {l : List Oper} (hm : P.follows .mixedOrders = true) (hB : Region.lexB .any l.toArray = true)
    (h : wpQuiet P l.toArray (fun w' => ∃ x : EW w, w' = x.v) (fun a' => ∀ w', (∃ x : EW w, w' = x.v) → Q .normal a' w') l a) : (Code.region id l.toArray true).wp P Q a w :=
  wp_region_quiet (C := fun w' => ∃ x : EW w, w' = x.v) hm hB ⟨⟨w.drew, (Below.refl _ _).drew⟩, rfl⟩ (by simpa using h)
/-- A call in such a region. -/
theorem Calls.ext_of {P : Program} {f : FuncId} {args : Array Value} {w : World} {x : EW w} {v : Value}
    (h : Calls P f args x.v fun e w' => e = .returned v ∧ Below x.v.heap.size x.v w') : Calls P f args x.v fun e w'' => e = .returned v ∧ ∃ y : EW w, w'' = y.v :=
  h.mono fun _ w' ⟨he, hm⟩ => ⟨he, ⟨w', below_then x.h x.h.size hm⟩, rfl⟩
end Go.Proofs.YtalljcjignaafaaDoor
namespace Go.Proofs.YtalljcjignaafaaDoor
open Go.RowKit Go.Proofs.YtalljcjignaafaaDoorW.PrintWords Go.Proofs.YtalljcjignaafaaDoorW.PrintLast
set_option linter.unusedVariables false
set_option linter.unusedSimpArgs false
/-- A function value that may be called: what a call of it enters. -/
def Enters (f : FuncId) (caps : Array Value) : Prop := ∀ W : World, (callFunc f caps).run Tryd.prog W = .ok (.enter f caps) W
theorem ret_boolA {a b : Bool} (h : a = b) : Ending.returned (.bool a) = .returned (.bool b) := by rw [h]
/-- A bool function without parameters: what it tells, in whatever world from w on. -/
def Tells (w : World) (fv : Value) (p : Bool) : Prop :=
  ∃ f caps, fv = .func (.func f) #[] caps ∧ Enters f caps ∧ ∀ W, Below w.heap.size w W → Calls Tryd.prog f caps W fun e W' => e = .returned (.bool p) ∧ Below W.heap.size W W'
set_option maxRecDepth 100000 in
theorem not_any (w : World) (fv : Value) (p : Bool) (h : Tells w fv p) (W : World) (hW : Below w.heap.size w W) :
    Calls Tryd.prog 60 #[fv] W fun e W' => e = .returned (.bool (!p)) ∧ Below W.heap.size W W' := by
  obtain ⟨f, caps, rfl, he, hc⟩ := h
  have HC := Aside0.mk (hc W hW)
  have he' : ∀ W : World, (callFunc f caps).run Tryd.prog W = .ok (.enter f caps) W := he
  clear hc he
  go_enter Tryd.func60, Tryd.ntmps60
  go_wp2_with fail
  refine HC.out.mono ?_
  rintro e w1 ⟨rfl, hb⟩
  have HB := Aside0.mk hb
  clear hb
  go_wp2
  go_ret
  exact ⟨rfl, HB.out⟩
theorem range_all_succ (p : Nat → Bool) (k : Nat) : (List.range (k + 1)).all p = ((List.range k).all p && p k) := by
  rw [List.range_succ, List.all_append]; simp
theorem range_all_false (p : Nat → Bool) (k n : Nat) (h : k < n) (hp : p k = false) : (List.range n).all p = false := by
  rw [List.all_eq_false]
  exact ⟨k, List.mem_range.2 h, by simp [hp]⟩
set_option maxRecDepth 100000 in
set_option maxHeartbeats 1000000 in
theorem indexFunc_any (fvs : List Value) (p : Nat → Bool) (g T : Nat) (w : World) (hg : w.heap[g]? = some (.cells fvs.toArray T (0, 0))) (hn : fvs.length ≤ 1000000)
    (hp : ∀ i fv, fvs[i]? = some fv → Tells w fv (p i)) :
    Calls Tryd.prog 69 #[.slice (some ⟨g, 0, none⟩) fvs.length fvs.length, .func (.func 60) #[] #[]] w fun e w' =>
      ∃ r : Int, e = .returned (.int .i64 r) ∧ (decide (0 ≤ r) = !(List.range fvs.length).all p) ∧ Below w.heap.size w w' := by
  have HG := Aside0.mk hg
  have HP := Aside0.mk hp
  clear hg hp
  go_enter Tryd.func69, Tryd.ntmps69
  go_wp2
  go_loopw [8] (fun i wr => ∃ k : Nat, k ≤ fvs.length ∧ i = .int .i64 k ∧ Aside0 ((List.range k).all p = true) ∧ Aside0 (Below w.heap.size w wr)) (fun i _ => fvs.length - (intOf i).toNat)
  case atStart => exact ⟨0, Nat.zero_le _, rfl, ⟨rfl⟩, ⟨Below.refl _ _⟩⟩
  case round =>
    obtain ⟨k, hk, rfl, HA, HW⟩ := hrel
    by_cases hlt : k < fvs.length
    · have hfv : fvs[k]? = some fvs[k] := List.getElem?_eq_getElem hlt
      have HT := Aside0.mk (not_any w fvs[k] (p k) (HP.out k _ hfv) wr HW.out)
      have hc : wr.cell? ⟨g, k, none⟩ = some fvs[k] := pw_cell_below HW.out (blk_of_cells HG.out k _ hfv)
      clear hfv
      generalize fvs[k] = fv at *
      cases hpk : p k with
      | true =>
        rw [hpk] at HT
        have HPK := Aside0.mk hpk
        clear hpk
        go_wp2_with (go_at_call 60; refine HT.out.mono ?_; rintro e w1 ⟨rfl, hb⟩; have HB := Aside0.mk hb; clear hb)
        go_roundw
        case rel => exact ⟨k + 1, by omega, by go_num, ⟨by rw [range_all_succ, HA.out, HPK.out]; rfl⟩, ⟨below_then HW.out HW.out.size HB.out⟩⟩
        case measure => simp [intOf]; omega
      | false =>
        rw [hpk] at HT
        have HPK := Aside0.mk hpk
        clear hpk
        go_wp2_with (go_at_call 60; refine HT.out.mono ?_; rintro e w1 ⟨rfl, hb⟩; have HB := Aside0.mk hb; clear hb)
        go_ret
        refine ⟨(k : Int), rfl, ?_, below_then HW.out HW.out.size HB.out⟩
        rw [range_all_false p k _ hlt HPK.out]
        simp
    · go_wp2
      go_ret
      refine ⟨-1, rfl, ?_, HW.out⟩
      rw [show fvs.length = k by omega, HA.out]
      rfl
set_option maxRecDepth 100000 in
theorem containsFunc_any (fvs : List Value) (p : Nat → Bool) (g T : Nat) (w : World) (hg : w.heap[g]? = some (.cells fvs.toArray T (0, 0))) (hn : fvs.length ≤ 1000000)
    (hp : ∀ i fv, fvs[i]? = some fv → Tells w fv (p i)) :
    Calls Tryd.prog 59 #[.slice (some ⟨g, 0, none⟩) fvs.length fvs.length, .func (.func 60) #[] #[]] w fun e w' =>
      e = .returned (.bool (!(List.range fvs.length).all p)) ∧ Below w.heap.size w w' := by
  have HC := Aside0.mk (indexFunc_any fvs p g T w hg hn hp)
  clear hg hp
  go_enter Tryd.func59, Tryd.ntmps59
  go_wp2_with (go_at_call 69; refine HC.out.mono ?_; rintro e w1 ⟨r, rfl, hr, hb⟩; have HR := Aside0.mk hr; have HB := Aside0.mk hb; clear hr hb)
  go_ret
  refine ⟨ret_boolA HR.out, HB.out⟩
set_option maxRecDepth 100000 in
theorem all_any (fvs : List Value) (p : Nat → Bool) (g T : Nat) (w : World) (hg : w.heap[g]? = some (.cells fvs.toArray T (0, 0))) (hn : fvs.length ≤ 1000000)
    (hp : ∀ i fv, fvs[i]? = some fv → Tells w fv (p i)) :
    Calls Tryd.prog 42 #[.slice (some ⟨g, 0, none⟩) fvs.length fvs.length] w fun e w' =>
      e = .returned (.bool ((List.range fvs.length).all p)) ∧ Below w.heap.size w w' := by
  have HC := Aside0.mk (containsFunc_any fvs p g T w hg hn hp)
  clear hg hp
  go_enter Tryd.func42, Tryd.ntmps42
  go_wp2_with (go_at_call 59; refine HC.out.mono ?_; rintro e w1 ⟨rfl, hb⟩; have HB := Aside0.mk hb; clear hb)
  go_ret
  exact ⟨ret_boolA (by simp), HB.out⟩
end Go.Proofs.YtalljcjignaafaaDoor

import Derived.Test.YtalljcjignaafaaDoorQTreeKnown9
import Derived.Test.YtalljcjignaafaaDoorQTreeKnown17
import Derived.Test.YtalljcjignaafaaDoorQTreeKnown18
import Derived.Test.YtalljcjignaafaaDoorQTreeKnown19
namespace Go.Proofs.YtalljcjignaafaaDoor.PB
open Go Go.RowKit Go.Proofs.YtalljcjignaafaaDoor Go.Proofs.YtalljcjignaafaaDoorW.PrintWords Go.Proofs.YtalljcjignaafaaDoorW.PrintLast
attribute [local go_sem] Oper.semAt_some
set_option linter.unusedVariables false
set_option linter.unusedSimpArgs false
def stepP (y : Tree) (q : ByteArray) : Option Tree := if y.f1 = 2 ∧ q.toList ≠ [] ∧ 0 ≤ idxFrom q y.f4 0 then some (rd_T24 y.f4 (idxFrom q y.f4 0)) else none
def findP : Tree → List ByteArray → Option Tree
  | t, [] => some t
  | t, q :: r => (stepP t q).bind fun y => findP y r
def findR (t : Tree) (path : ByteArray) : Option Tree := if path.toList = [] then some t else findP t (splitP path)
def ZF (n0 k : Nat) : Prop := n0 ≤ k ∧ k < n0 + 3
def nodeCells (y : Tree) (A : Option Addr) (c : Nat) : Obj := .cells #[.string y.f0, .int .i64 y.f1, .bool y.f2, .string y.f3, .slice A y.f4.length c] 24 (0, 0)
def zeroCells : Obj := .cells #[.string ⟨#[]⟩, .int .i64 0, .bool false, .string ⟨#[]⟩, .slice none 0 0] 24 (0, 0)
structure FInv (w : World) (t : Tree) (ps : List ByteArray) (i : Nat) (Z : Nat → Prop) (W : World) (y : Tree) (A : Option Addr) (c : Nat) : Prop where
  z : ∀ k, Z k ↔ ZF w.heap.size k
  n : W.heap[w.heap.size]? = some (nodeCells y A c)
  r : W.heap[w.heap.size + 1]? = some zeroCells
  f : W.heap[w.heap.size + 2]? = some (.cells #[.bool false] 4 (0, 0))
  k : Kd.C k24 w A y.f4.length y.f4 ∧ y.f4.length ≤ c
  e : findP t ps = findP y (ps.drop i)
  b : Below w.heap.size w W
def FI (w : World) (t : Tree) (ps : List ByteArray) (i : Nat) (Z : Nat → Prop) (W : World) : Prop := ∃ y A c, FInv w t ps i Z W y A c
structure FX (w : World) (t : Tree) (ps : List ByteArray) (i : Nat) (Z : Nat → Prop) (W : World) : Prop where
  z : ∀ k, Z k ↔ ZF w.heap.size k
  r : W.heap[w.heap.size + 1]? = some zeroCells
  f : W.heap[w.heap.size + 2]? = some (.cells #[.bool false] 4 (0, 0))
  e : findP t ps = none
  b : Below w.heap.size w W
theorem low_of {w W W' : World} (h : Below w.heap.size w W) (h0 : Below 0 W W') (hk : ∀ k, k < W.heap.size → k < w.heap.size → W'.heap[k]? = W.heap[k]?) : Below w.heap.size w W' :=
  ⟨h0.os.trans h.os, h0.tape.trans h.tape, h0.output.trans h.output, Nat.le_trans h.size h0.size, fun k hlt => (hk k (Nat.lt_of_lt_of_le hlt h.size) hlt).trans (h.block k hlt)⟩
theorem res_find {r4 r5 : Nat} (tmps : Array Value) (W : World) (y : Tree) (A : Option Addr) (c : Nat) (is : Bool) (h4 : tmps.getD 4 undef = .pointer (some ⟨r4, 0, none⟩)) (h5 : tmps.getD 5 undef = .pointer (some ⟨r5, 0, none⟩)) (hn : W.heap[r4]? = some (nodeCells y A c)) (hf : W.heap[r5]? = some (.cells #[.bool is] 4 (0, 0))) :
    (results Tryd.f8 tmps).run Tryd.prog W = .ok (.tuple #[.agg #[.string y.f0, .int .i64 y.f1, .bool y.f2, .string y.f3, .slice A y.f4.length c], .bool is]) W := by
  have e4 : tmps[4]?.getD undef = .pointer (some ⟨r4, 0, none⟩) := by simpa using h4
  have e5 : tmps[5]?.getD undef = .pointer (some ⟨r5, 0, none⟩) := by simpa using h5
  have c5 : W.cell? ⟨r5, 0, none⟩ = some (.bool is) := (blk_cell hf 0).trans rfl
  have l5 : (loadVar 4 ⟨r5, 0, none⟩).run Tryd.prog W = .ok (.bool is) W := by simp [loadVar, isAgg, run_underlying Tryd.underlying4, c5, Result.andThen]
  have l4 : (loadVar 24 ⟨r4, 0, none⟩).run Tryd.prog W = .ok (.agg #[.string y.f0, .int .i64 y.f1, .bool y.f2, .string y.f3, .slice A y.f4.length c]) W := run_loadVar_row W r4 24 24 _ _ _ hn Tryd.underlying24 rfl (by kernel_rfl)
  simp [results, show Tryd.f8.results = #[.cell 4 24, .cell 5 4] from rfl, e4, e5, asAddr, l4, l5, Result.andThen]
def FindPost (w : World) (r : Option Tree) (e : Ending) (w' : World) : Prop := ∃ y A c, e = .returned (.tuple #[.agg #[.string y.f0, .int .i64 y.f1, .bool y.f2, .string y.f3, .slice A y.f4.length c], .bool r.isSome]) ∧ y = r.getD z24 ∧ Kd.C k24 w A y.f4.length y.f4 ∧ y.f4.length ≤ c ∧ Below w.heap.size w w'
theorem idxFrom_lt (nm : ByteArray) : ∀ (ks : List Tree) (k : Nat), idxFrom nm ks k = -1 ∨ ((k : Int) ≤ idxFrom nm ks k ∧ idxFrom nm ks k < ((k + ks.length : Nat) : Int))
  | [], k => .inl rfl
  | x :: r, k => by
    unfold idxFrom
    split
    · right; simp only [List.length_cons]; omega
    · rcases idxFrom_lt nm r (k + 1) with h | h
      · exact .inl h
      · right; simp only [List.length_cons]; omega
def put5 (W : World) (b : Nat) (v0 v1 v2 v3 v4 : Value) : World := ((((W.setCell ⟨b, 0, none⟩ v0).setCell ⟨b, 1, none⟩ v1).setCell ⟨b, 2, none⟩ v2).setCell ⟨b, 3, none⟩ v3).setCell ⟨b, 4, none⟩ v4
theorem put5_at {W : World} {b T : Nat} {u0 u1 u2 u3 u4 : Value} (h : W.heap[b]? = some (.cells #[u0, u1, u2, u3, u4] T (0, 0))) (v0 v1 v2 v3 v4 : Value) : (put5 W b v0 v1 v2 v3 v4).heap[b]? = some (.cells #[v0, v1, v2, v3, v4] T (0, 0)) :=
  (blk_store (l := [_, _, _, _, _]) (blk_store (l := [_, _, _, _, _]) (blk_store (l := [_, _, _, _, _]) (blk_store (l := [_, _, _, _, _]) (blk_store (l := [_, _, _, _, _]) h 0 _) 1 _) 2 _) 3 _) 4 _).trans rfl
theorem put5_other {W : World} {b k : Nat} (h : k ≠ b) (v0 v1 v2 v3 v4 : Value) : (put5 W b v0 v1 v2 v3 v4).heap[k]? = W.heap[k]? :=
  ((((Below.heap_setCell _ ⟨b, 4, none⟩ _ _ h).trans (Below.heap_setCell _ ⟨b, 3, none⟩ _ _ h)).trans (Below.heap_setCell _ ⟨b, 2, none⟩ _ _ h)).trans (Below.heap_setCell _ ⟨b, 1, none⟩ _ _ h)).trans (Below.heap_setCell _ ⟨b, 0, none⟩ _ _ h)
theorem put5_below {n : Nat} {w W : World} {b : Nat} (h : Below n w W) (hn : n ≤ b) (v0 v1 v2 v3 v4 : Value) : Below n w (put5 W b v0 v1 v2 v3 v4) :=
  ((((h.setCell (p := ⟨b, 0, none⟩) hn _).setCell (p := ⟨b, 1, none⟩) hn _).setCell (p := ⟨b, 2, none⟩) hn _).setCell (p := ⟨b, 3, none⟩) hn _).setCell (p := ⟨b, 4, none⟩) hn _
theorem put5_size (W : World) (b : Nat) (v0 v1 v2 v3 v4 : Value) : (put5 W b v0 v1 v2 v3 v4).heap.size = W.heap.size := by simp [put5]
theorem stop_of {w : World} {t : Tree} {ps : List ByteArray} {i : Nat} {Z : Nat → Prop} {W3 W1 : World} (hz : ∀ k, Z k ↔ ZF w.heap.size k) (hr : W1.heap[w.heap.size + 1]? = some zeroCells) (hf : W1.heap[w.heap.size + 1 + 1]? = some (.cells #[.bool false] 4 (0, 0))) (he : findP t ps = none) (hb : Below w.heap.size w W1) (h31 : Below W3.heap.size W3 W1) (hlt : ∀ k, Z k → k < W3.heap.size) :
    ∃ Z', FX w t ps i Z' ((put5 W1 (w.heap.size + 1) (.string ⟨#[]⟩) (.int .i64 0) (.bool false) (.string ⟨#[]⟩) (.slice none 0 0)).setCell ⟨w.heap.size + 1 + 1, 0, none⟩ (.bool false)) ∧ Stp Z Z' W3 ((put5 W1 (w.heap.size + 1) (.string ⟨#[]⟩) (.int .i64 0) (.bool false) (.string ⟨#[]⟩) (.slice none 0 0)).setCell ⟨w.heap.size + 1 + 1, 0, none⟩ (.bool false)) := by
  have hzi : ∀ k, ¬ Z k → k ≠ w.heap.size + 1 ∧ k ≠ w.heap.size + 1 + 1 := fun k hk => ⟨fun e => hk ((hz k).2 ⟨by omega, by omega⟩), fun e => hk ((hz k).2 ⟨by omega, by omega⟩)⟩
  refine ⟨Z, ⟨hz, ?_, ?_, he, (put5_below hb (Nat.le_succ _) _ _ _ _ _).setCell (p := ⟨w.heap.size + 1 + 1, 0, none⟩) (Nat.le_succ_of_le (Nat.le_succ _)) _⟩, ⟨?_, fun k hk hzk => ?_, fun k hk => .inl hk, fun k hk => ?_⟩⟩
  · exact (Below.heap_setCell _ ⟨w.heap.size + 1 + 1, 0, none⟩ _ _ (by show w.heap.size + 1 ≠ w.heap.size + 1 + 1; omega)).trans (put5_at hr _ _ _ _ _)
  · exact (blk_store (l := [_]) ((put5_other (by omega) _ _ _ _ _).trans hf) 0 _).trans rfl
  · exact (put5_below (h31.mono (Nat.zero_le _)) (Nat.zero_le _) _ _ _ _ _).setCell (p := ⟨w.heap.size + 1 + 1, 0, none⟩) (Nat.zero_le _) _
  · exact (Below.heap_setCell _ ⟨w.heap.size + 1 + 1, 0, none⟩ _ _ (hzi k hzk).2).trans ((put5_other (hzi k hzk).1 _ _ _ _ _).trans (h31.block k hk))
  · have e : ((put5 W1 (w.heap.size + 1) (.string ⟨#[]⟩) (.int .i64 0) (.bool false) (.string ⟨#[]⟩) (.slice none 0 0)).setCell ⟨w.heap.size + 1 + 1, 0, none⟩ (.bool false)).heap.size = W1.heap.size := by simp [put5]
    rw [e]; exact Nat.lt_of_lt_of_le (hlt k hk) h31.size
theorem go_of {w : World} {t y : Tree} {A : Option Addr} {c : Nat} {ps : List ByteArray} {i : Nat} {Z : Nat → Prop} {W3 W1 : World} {u : Tree} {Au : Option Addr} {cu : Nat} (hz : ∀ k, Z k ↔ ZF w.heap.size k) (hn : W1.heap[w.heap.size]? = some (nodeCells u Au cu)) (hr : W1.heap[w.heap.size + 1]? = some zeroCells) (hf : W1.heap[w.heap.size + 2]? = some (.cells #[.bool false] 4 (0, 0)))
    (hk : Kd.C k24 w A y.f4.length y.f4 ∧ y.f4.length ≤ c) (he : findP t ps = findP y (ps.drop (i + 1))) (hb : Below w.heap.size w W1) (h31 : Below W3.heap.size W3 W1) (hlt : ∀ k, Z k → k < W3.heap.size) :
    ∃ Z', FI w t ps (i + 1) Z' (put5 W1 w.heap.size (.string y.f0) (.int .i64 y.f1) (.bool y.f2) (.string y.f3) (.slice A y.f4.length c)) ∧ Stp Z Z' W3 (put5 W1 w.heap.size (.string y.f0) (.int .i64 y.f1) (.bool y.f2) (.string y.f3) (.slice A y.f4.length c)) := by
  have hzi : ∀ k, ¬ Z k → k ≠ w.heap.size := fun k hk e => hk ((hz k).2 ⟨by omega, by omega⟩)
  refine ⟨Z, ⟨y, A, c, ⟨hz, put5_at hn _ _ _ _ _, (put5_other (by omega) _ _ _ _ _).trans hr, (put5_other (by omega) _ _ _ _ _).trans hf, hk, he, put5_below hb (Nat.le_refl _) _ _ _ _ _⟩⟩, ⟨put5_below (h31.mono (Nat.zero_le _)) (Nat.zero_le _) _ _ _ _ _, fun k hk' hzk => (put5_other (hzi k hzk) _ _ _ _ _).trans (h31.block k hk'), fun k hk => .inl hk, fun k hk => ?_⟩⟩
  rw [put5_size]; exact Nat.lt_of_lt_of_le (hlt k hk) h31.size
theorem findP_stop {t y : Tree} {ps r : List ByteArray} {i : Nat} {q : ByteArray} (h : findP t ps = findP y (ps.drop i)) (hd : ps.drop i = q :: r) (hs : stepP y q = none) : findP t ps = none := by
  rw [h, hd]; show (stepP y q).bind _ = none; rw [hs]; rfl
theorem findP_go {t y x : Tree} {ps r : List ByteArray} {i : Nat} {q : ByteArray} (h : findP t ps = findP y (ps.drop i)) (hd : ps.drop i = q :: r) (hs : stepP y q = some x) : findP t ps = findP x r := by
  rw [h, hd]; show (stepP y q).bind _ = _; rw [hs]; rfl
set_option maxRecDepth 100000 in
set_option maxHeartbeats 4000000 in
theorem find_any (t : Tree) (hf : Fit t) (path : ByteArray) (hp : path.size ≤ 4611686018427387904) (A : Option Addr) (c : Nat) (w : World) (hC : Kd.C k24 w A t.f4.length t.f4) (hc : t.f4.length ≤ c) :
    Calls Tryd.prog 8 #[.agg #[.string t.f0, .int .i64 t.f1, .bool t.f2, .string t.f3, .slice A t.f4.length c], .string path] w (FindPost w (findR t path)) := by
  have hu := Tryd.underlying24
  obtain ⟨R, hR⟩ : ∃ R, FindPost w (findR t path) = R := ⟨_, rfl⟩
  rw [hR]
  have HPOST := Aside0.mk hR
  have HC := Aside0.mk (And.intro hC hc)
  have HF := Aside0.mk hf
  have HP := Aside0.mk hp
  clear hR hC hf hp hc
  refine (callsIn_wide (n := 3)).1 ?_
  refine callsIn_of_wp_marks Tryd.func8 rfl trivial ?_ rfl
  simp only [Tryd.ntmps8, List.size_toArray, List.length_cons, List.length_nil, Nat.reduceAdd, Nat.reduceSub, Array.replicate_succ, Array.replicate_zero, List.push_toArray, List.append_toArray, List.nil_append, List.cons_append]
  cases hpe : (path.toList == ([] : List UInt8)) with
  | true =>
    gi_wp2_with fail
    have hfr : findR t path = some t := by unfold findR; rw [if_pos (by simpa using hpe)]
    refine ⟨_, res_find (r4 := w.heap.size + 1) (r5 := w.heap.size + 1 + 1) _ _ t A c true rfl rfl (blk_alloc (by have h := heap_alloc_new (w.alloc (.cells #[.string t.f0, .int .i64 t.f1, .bool t.f2, .string t.f3, .slice A t.f4.length c] 24)) (.cells #[.string t.f0, .int .i64 t.f1, .bool t.f2, .string t.f3, .slice A t.f4.length c] 24); simp only [World.size_alloc] at h; exact h) _) (by have h := heap_alloc_new ((w.alloc (.cells #[.string t.f0, .int .i64 t.f1, .bool t.f2, .string t.f3, .slice A t.f4.length c] 24)).alloc (.cells #[.string t.f0, .int .i64 t.f1, .bool t.f2, .string t.f3, .slice A t.f4.length c] 24)) (.cells #[.bool true] 4); simp only [World.size_alloc] at h; exact h), ?_⟩
    rw [← HPOST.out, hfr]
    exact ⟨t, A, c, rfl, rfl, HC.out.1, HC.out.2, (((Below.refl _ w).alloc (Nat.le_refl _) _).alloc (by simp only [World.size_alloc]; omega) _).alloc (by simp only [World.size_alloc]; omega) _⟩
  | false =>
    have hfr : findR t path = findP t (splitP path) := by unfold findR; rw [if_neg (by simpa using hpe)]
    rw [hfr] at HPOST
    have HPE := Aside0.mk hpe
    gi_wp2_with fail
    refine ⟨trivial, (callsIn_wide.2 (split_calls path _)).mono ?_⟩
    rintro e w1 ⟨rfl, rfl⟩
    gi_wp2_with fail
    have a0 : ((((((w.alloc (.cells #[.string t.f0, .int .i64 t.f1, .bool t.f2, .string t.f3, .slice A t.f4.length c] 24)).alloc (.cells #[.string ⟨#[]⟩, .int .i64 0, .bool false, .string ⟨#[]⟩, .slice none 0 0] 24)).alloc (.cells #[.bool false] 4)).alloc (.cells #[.string path] 9)).alloc (.cells #[.string ⟨#[47]⟩] 9)).alloc (.cells #[.int .i64 0] 3)).heap[w.heap.size]? = some (.cells #[.string t.f0, .int .i64 t.f1, .bool t.f2, .string t.f3, .slice A t.f4.length c] 24 (0, 0)) := by
      have h := heap_alloc_new w (.cells #[.string t.f0, .int .i64 t.f1, .bool t.f2, .string t.f3, .slice A t.f4.length c] 24)
      exact (blk_alloc (blk_alloc (blk_alloc (blk_alloc (blk_alloc h _) _) _) _) _)
    have a1 : ((((((w.alloc (.cells #[.string t.f0, .int .i64 t.f1, .bool t.f2, .string t.f3, .slice A t.f4.length c] 24)).alloc (.cells #[.string ⟨#[]⟩, .int .i64 0, .bool false, .string ⟨#[]⟩, .slice none 0 0] 24)).alloc (.cells #[.bool false] 4)).alloc (.cells #[.string path] 9)).alloc (.cells #[.string ⟨#[47]⟩] 9)).alloc (.cells #[.int .i64 0] 3)).heap[w.heap.size + 1]? = some (.cells #[.string ⟨#[]⟩, .int .i64 0, .bool false, .string ⟨#[]⟩, .slice none 0 0] 24 (0, 0)) := by
      have h := heap_alloc_new (w.alloc (.cells #[.string t.f0, .int .i64 t.f1, .bool t.f2, .string t.f3, .slice A t.f4.length c] 24)) (.cells #[.string ⟨#[]⟩, .int .i64 0, .bool false, .string ⟨#[]⟩, .slice none 0 0] 24)
      simp only [World.size_alloc] at h
      exact (blk_alloc (blk_alloc (blk_alloc (blk_alloc h _) _) _) _)
    have a2 : ((((((w.alloc (.cells #[.string t.f0, .int .i64 t.f1, .bool t.f2, .string t.f3, .slice A t.f4.length c] 24)).alloc (.cells #[.string ⟨#[]⟩, .int .i64 0, .bool false, .string ⟨#[]⟩, .slice none 0 0] 24)).alloc (.cells #[.bool false] 4)).alloc (.cells #[.string path] 9)).alloc (.cells #[.string ⟨#[47]⟩] 9)).alloc (.cells #[.int .i64 0] 3)).heap[w.heap.size + 1 + 1]? = some (.cells #[.bool false] 4 (0, 0)) := by
      have h := heap_alloc_new ((w.alloc (.cells #[.string t.f0, .int .i64 t.f1, .bool t.f2, .string t.f3, .slice A t.f4.length c] 24)).alloc (.cells #[.string ⟨#[]⟩, .int .i64 0, .bool false, .string ⟨#[]⟩, .slice none 0 0] 24)) (.cells #[.bool false] 4)
      simp only [World.size_alloc] at h
      exact (blk_alloc (blk_alloc (blk_alloc h _) _) _)
    have a3 : ((((((w.alloc (.cells #[.string t.f0, .int .i64 t.f1, .bool t.f2, .string t.f3, .slice A t.f4.length c] 24)).alloc (.cells #[.string ⟨#[]⟩, .int .i64 0, .bool false, .string ⟨#[]⟩, .slice none 0 0] 24)).alloc (.cells #[.bool false] 4)).alloc (.cells #[.string path] 9)).alloc (.cells #[.string ⟨#[47]⟩] 9)).alloc (.cells #[.int .i64 0] 3)).heap[w.heap.size + 1 + 1 + 1]? = some (.cells #[.string path] 9 (0, 0)) := by
      have h := heap_alloc_new (((w.alloc (.cells #[.string t.f0, .int .i64 t.f1, .bool t.f2, .string t.f3, .slice A t.f4.length c] 24)).alloc (.cells #[.string ⟨#[]⟩, .int .i64 0, .bool false, .string ⟨#[]⟩, .slice none 0 0] 24)).alloc (.cells #[.bool false] 4)) (.cells #[.string path] 9)
      simp only [World.size_alloc] at h
      exact (blk_alloc (blk_alloc h _) _)
    have a4 : ((((((w.alloc (.cells #[.string t.f0, .int .i64 t.f1, .bool t.f2, .string t.f3, .slice A t.f4.length c] 24)).alloc (.cells #[.string ⟨#[]⟩, .int .i64 0, .bool false, .string ⟨#[]⟩, .slice none 0 0] 24)).alloc (.cells #[.bool false] 4)).alloc (.cells #[.string path] 9)).alloc (.cells #[.string ⟨#[47]⟩] 9)).alloc (.cells #[.int .i64 0] 3)).heap[w.heap.size + 1 + 1 + 1 + 1]? = some (.cells #[.string ⟨#[47]⟩] 9 (0, 0)) := by
      have h := heap_alloc_new ((((w.alloc (.cells #[.string t.f0, .int .i64 t.f1, .bool t.f2, .string t.f3, .slice A t.f4.length c] 24)).alloc (.cells #[.string ⟨#[]⟩, .int .i64 0, .bool false, .string ⟨#[]⟩, .slice none 0 0] 24)).alloc (.cells #[.bool false] 4)).alloc (.cells #[.string path] 9)) (.cells #[.string ⟨#[47]⟩] 9)
      simp only [World.size_alloc] at h
      exact (blk_alloc h _)
    have a5 : ((((((w.alloc (.cells #[.string t.f0, .int .i64 t.f1, .bool t.f2, .string t.f3, .slice A t.f4.length c] 24)).alloc (.cells #[.string ⟨#[]⟩, .int .i64 0, .bool false, .string ⟨#[]⟩, .slice none 0 0] 24)).alloc (.cells #[.bool false] 4)).alloc (.cells #[.string path] 9)).alloc (.cells #[.string ⟨#[47]⟩] 9)).alloc (.cells #[.int .i64 0] 3)).heap[w.heap.size + 1 + 1 + 1 + 1 + 1]? = some (.cells #[.int .i64 0] 3 (0, 0)) := by
      have h := heap_alloc_new (((((w.alloc (.cells #[.string t.f0, .int .i64 t.f1, .bool t.f2, .string t.f3, .slice A t.f4.length c] 24)).alloc (.cells #[.string ⟨#[]⟩, .int .i64 0, .bool false, .string ⟨#[]⟩, .slice none 0 0] 24)).alloc (.cells #[.bool false] 4)).alloc (.cells #[.string path] 9)).alloc (.cells #[.string ⟨#[47]⟩] 9)) (.cells #[.int .i64 0] 3)
      simp only [World.size_alloc] at h
      exact h
    have aB : Below w.heap.size w ((((((w.alloc (.cells #[.string t.f0, .int .i64 t.f1, .bool t.f2, .string t.f3, .slice A t.f4.length c] 24)).alloc (.cells #[.string ⟨#[]⟩, .int .i64 0, .bool false, .string ⟨#[]⟩, .slice none 0 0] 24)).alloc (.cells #[.bool false] 4)).alloc (.cells #[.string path] 9)).alloc (.cells #[.string ⟨#[47]⟩] 9)).alloc (.cells #[.int .i64 0] 3)) := (((((((Below.refl _ w).alloc (Nat.le_refl _) _).alloc (by simp only [World.size_alloc]; omega) _).alloc (by simp only [World.size_alloc]; omega) _).alloc (by simp only [World.size_alloc]; omega) _).alloc (by simp only [World.size_alloc]; omega) _).alloc (by simp only [World.size_alloc]; omega) _)
    have aS : ((((((w.alloc (.cells #[.string t.f0, .int .i64 t.f1, .bool t.f2, .string t.f3, .slice A t.f4.length c] 24)).alloc (.cells #[.string ⟨#[]⟩, .int .i64 0, .bool false, .string ⟨#[]⟩, .slice none 0 0] 24)).alloc (.cells #[.bool false] 4)).alloc (.cells #[.string path] 9)).alloc (.cells #[.string ⟨#[47]⟩] 9)).alloc (.cells #[.int .i64 0] 3)).heap.size = w.heap.size + 6 := by simp
    have XA := Aside0.mk (And.intro a0 (And.intro a1 (And.intro a2 (And.intro a3 (And.intro a4 (And.intro a5 (And.intro aB aS)))))))
    clear a0 a1 a2 a3 a4 a5 aB aS hfr
    generalize ((((((w.alloc (.cells #[.string t.f0, .int .i64 t.f1, .bool t.f2, .string t.f3, .slice A t.f4.length c] 24)).alloc (.cells #[.string ⟨#[]⟩, .int .i64 0, .bool false, .string ⟨#[]⟩, .slice none 0 0] 24)).alloc (.cells #[.bool false] 4)).alloc (.cells #[.string path] 9)).alloc (.cells #[.string ⟨#[47]⟩] 9)).alloc (.cells #[.int .i64 0] 3)) = W5 at XA ⊢
    have hzin : ∀ j, j < 3 → ZF w.heap.size (w.heap.size + j) := fun j hj => ⟨by omega, by omega⟩
    refine wpIn_range_some (gf := 57) (lb := #[.pointer (some ⟨w.heap.size + 1 + 1 + 1 + 1, 0, none⟩), .pointer (some ⟨w.heap.size + 1 + 1 + 1, 0, none⟩), .pointer (some ⟨w.heap.size + 1 + 1 + 1 + 1 + 1, 0, none⟩)]) rfl (enters_of Tryd.func57 (by kernel_rfl) rfl) ((splitP path).map fun q => #[.string q]) (fun a ha => by obtain ⟨q, -, rfl⟩ := List.mem_map.1 ha; rfl)
      (fun k => k = w.heap.size + 1 + 1 + 1) (ZF w.heap.size) (fun k hk => by have := XA.out.2.2.2.2.2.2.2; omega) (fun k hk => by have := XA.out.2.2.2.2.2.2.2; have := hk.2; omega)
      (fun W' hW' => splitIt path HP.out _ _ _ _ W' (blk_below XA.out.2.2.2.2.1 hW') (blk_below XA.out.2.2.2.1 hW') (blk_below XA.out.2.2.2.2.2.1 hW') (by omega) (by omega) (fun h => by have := h.2; omega) (fun h => by have := h.2; omega) (fun h => by have := h.2; omega))
      (FI w t (splitP path)) (FX w t (splitP path))
      (by
        rintro i Z W1 W2 ⟨y, Ay, cy, h⟩ hb hk
        have hsz := XA.out.2.2.2.2.2.2.2
        exact ⟨y, Ay, cy, ⟨h.z, (hk _ (blk_lt h.n) (.inr ((h.z _).2 (hzin 0 (by omega))))).trans h.n, (hk _ (blk_lt h.r) (.inr ((h.z _).2 (hzin 1 (by omega))))).trans h.r, (hk _ (blk_lt h.f) (.inr ((h.z _).2 (hzin 2 (by omega))))).trans h.f, h.k, h.e, low_of h.b hb (fun k h1 h2 => hk k h1 (.inl ⟨by omega, by omega⟩))⟩⟩)
      (by
        rintro i Z W1 W2 h hb hk
        have hsz := XA.out.2.2.2.2.2.2.2
        exact ⟨h.z, (hk _ (blk_lt h.r) (.inr ((h.z _).2 (hzin 1 (by omega))))).trans h.r, (hk _ (blk_lt h.f) (.inr ((h.z _).2 (hzin 2 (by omega))))).trans h.f, h.e, low_of h.b hb (fun k h1 h2 => hk k h1 (.inl ⟨by omega, by omega⟩))⟩)
      ⟨t, A, c, ⟨fun k => Iff.rfl, XA.out.1, XA.out.2.1, XA.out.2.2.1, HC.out, by rw [List.drop_zero], XA.out.2.2.2.2.2.2.1⟩⟩ ?_ ?_ ?_
    · intro l' i Z W hlx hle hi hst hnl hll
      obtain ⟨y, Ay, cy, h⟩ := hi
      have hil : i < (splitP path).length := by rwa [List.length_map] at hlx
      rw [List.getElem_map]
      have HDR := Aside0.mk (show (splitP path).drop i = (splitP path)[i] :: (splitP path).drop (i + 1) from List.drop_eq_getElem_cons hil)
      generalize (splitP path)[i] = q at HDR ⊢
      have HI := Aside0.mk h
      have HST := Aside0.mk (And.intro hle (And.intro hst (And.intro hnl hll)))
      clear hlx hil hle hst hnl hll h
      gi_wp2_with fail
      refine ⟨below_alloc (Below.refl _ W) _, fun W3 hb3 hs3 hk3 => ?_⟩
      have hsz := XA.out.2.2.2.2.2.2.2
      have hl5 := HST.out.1
      have hnb := blk_lt HI.out.n
      have B0 : W3.heap[w.heap.size]? = some (nodeCells y Ay cy) := (hk3 _ (by omega)).trans (blk_alloc HI.out.n _)
      have B1 : W3.heap[w.heap.size + 1]? = some zeroCells := (hk3 _ (by omega)).trans (blk_alloc HI.out.r _)
      have B2 : W3.heap[w.heap.size + 2]? = some (.cells #[.bool false] 4 (0, 0)) := (hk3 _ (by omega)).trans (blk_alloc HI.out.f _)
      have B3 : W3.heap[W.heap.size]? = some (.cells #[.string q] 9 (0, 0)) := (hk3 _ (by have := HST.out.2.2.2; omega)).trans (heap_alloc_new W _)
      have H3 := Aside0.mk (And.intro hs3 (And.intro hsz hl5))
      have HB := Aside0.mk (show Below w.heap.size w W3 from low_of HI.out.b (below0_trans ((below_alloc (Below.refl _ W) _).mono (Nat.zero_le _)) hb3) (fun k h1 h2 => (hk3 k (by omega)).trans ((below_alloc (Below.refl _ W) _).block k h1)))
      have HLT := Aside0.mk (show ∀ k, Z k → k < W3.heap.size from fun k hz => by have := HST.out.2.1.lt k hz; rw [hs3, World.size_alloc]; omega)
      have hW3 : W.heap.size < W3.heap.size := blk_lt B3
      have HWL := Aside0.mk hW3
      clear hs3 hk3 hb3 hsz hl5 hnb hW3
      have z0 := (blk_cell B0 0).trans (rfl : _ = some (Value.string y.f0))
      have z1 := (blk_cell B0 1).trans (rfl : _ = some (Value.int .i64 y.f1))
      have z2 := (blk_cell B0 2).trans (rfl : _ = some (Value.bool y.f2))
      have z3 := (blk_cell B0 3).trans (rfl : _ = some (Value.string y.f3))
      have z4 := (blk_cell B0 4).trans (rfl : _ = some (Value.slice Ay y.f4.length cy))
      have x0 := (blk_cell B1 0).trans (rfl : _ = some (Value.string ⟨#[]⟩))
      have x1 := (blk_cell B1 1).trans (rfl : _ = some (Value.int .i64 0))
      have x2 := (blk_cell B1 2).trans (rfl : _ = some (Value.bool false))
      have x3 := (blk_cell B1 3).trans (rfl : _ = some (Value.string ⟨#[]⟩))
      have x4 := (blk_cell B1 4).trans (rfl : _ = some (Value.slice none 0 0))
      have u0 := blk_nofreeze B1 0
      have u1 := blk_nofreeze B1 1
      have u2 := blk_nofreeze B1 2
      have u3 := blk_nofreeze B1 3
      have u4 := blk_nofreeze B1 4
      have v0 := (blk_cell B2 0).trans (rfl : _ = some (Value.bool false))
      have v1 := blk_nofreeze B2 0
      have q0 := (blk_cell B3 0).trans (rfl : _ = some (Value.string q))
      have A0 := Aside0.mk B0
      have A1 := Aside0.mk B1
      have A2 := Aside0.mk B2
      have A3 := Aside0.mk B3
      clear B0 B1 B2 B3
      by_cases hkd : y.f1 = 2
      · have hkb : (y.f1 == 2) = true := beq_iff_eq.mpr hkd
        cases hqe : q.toList.isEmpty with
        | true =>
          gi_wp2_with fail
          exact stop_of HI.out.z A1.out A2.out (findP_stop HI.out.e HDR.out (if_neg (fun h => h.2.1 (by simpa using hqe)))) HB.out (Below.refl _ _) HLT.out
        | false =>
          have HQE := Aside0.mk hqe
          have HKD := Aside0.mk hkd
          clear hkd
          gi_wp2_with fail
          refine ⟨trivial, CallsIn.inRound l' (callsIn_wide.2 ((idx_any y.f4 q W.heap.size Ay cy W3 (Kd.C_below HI.out.k.1 HB.out) q0).mono ?_))⟩
          rintro e w1 ⟨rfl, hb1⟩
          have H1 := Aside0.mk hb1
          have A0 := Aside0.mk (blk_below A0.out hb1)
          have A1 := Aside0.mk (blk_below A1.out hb1)
          have A2 := Aside0.mk (blk_below A2.out hb1)
          have A3 := Aside0.mk (blk_below A3.out hb1)
          clear hb1 z0 z1 z2 z3 z4 x0 x1 x2 x3 x4 u0 u1 u2 u3 u4 v0 v1 q0 hqe
          rcases idxFrom_lt q y.f4 0 with hi | hi
          · have HN := Aside0.mk (show stepP y q = none from if_neg (fun h => by have := h.2.2; omega))
            rw [hi]
            clear hi
            have x0 := (blk_cell A1.out 0).trans (rfl : _ = some (Value.string ⟨#[]⟩))
            have x1 := (blk_cell A1.out 1).trans (rfl : _ = some (Value.int .i64 0))
            have x2 := (blk_cell A1.out 2).trans (rfl : _ = some (Value.bool false))
            have x3 := (blk_cell A1.out 3).trans (rfl : _ = some (Value.string ⟨#[]⟩))
            have x4 := (blk_cell A1.out 4).trans (rfl : _ = some (Value.slice none 0 0))
            have u0 := blk_nofreeze A1.out 0
            have u1 := blk_nofreeze A1.out 1
            have u2 := blk_nofreeze A1.out 2
            have u3 := blk_nofreeze A1.out 3
            have u4 := blk_nofreeze A1.out 4
            have v0 := (blk_cell A2.out 0).trans (rfl : _ = some (Value.bool false))
            have v1 := blk_nofreeze A2.out 0
            gi_wp2_with fail
            exact stop_of HI.out.z A1.out A2.out (findP_stop HI.out.e HDR.out HN.out) (below_then HB.out HB.out.size H1.out) H1.out HLT.out
          · obtain ⟨k, hk⟩ : ∃ k : Nat, idxFrom q y.f4 0 = (k : Int) := ⟨(idxFrom q y.f4 0).toNat, by omega⟩
            rw [hk] at hi ⊢
            have hkl : k < y.f4.length := by omega
            have HS := Aside0.mk (show stepP y q = some (rd_T24 y.f4 (k : Int)) from by
              unfold stepP; rw [hk, if_pos ⟨HKD.out, by simpa using HQE.out, by omega⟩])
            obtain ⟨ad, A4, c4, hA, e0, e1, e2, e3, e4, l4, g4⟩ := at_T24 HI.out.k.1 (k : Int) (by omega) (by omega)
            generalize rd_T24 y.f4 (k : Int) = x at *
            have HX := Aside0.mk (And.intro g4 l4)
            subst hA
            rw [Int.toNat_natCast] at e0 e1 e2 e3 e4
            have f0 := pw_cell_below (below_then HB.out HB.out.size H1.out) e0
            have f1 := pw_cell_below (below_then HB.out HB.out.size H1.out) e1
            have f2 := pw_cell_below (below_then HB.out HB.out.size H1.out) e2
            have f3 := pw_cell_below (below_then HB.out HB.out.size H1.out) e3
            have f4 := pw_cell_below (below_then HB.out HB.out.size H1.out) e4
            clear e0 e1 e2 e3 e4 l4 g4 hk hi
            have z0 := (blk_cell A0.out 0).trans (rfl : _ = some (Value.string y.f0))
            have z1 := (blk_cell A0.out 1).trans (rfl : _ = some (Value.int .i64 y.f1))
            have z2 := (blk_cell A0.out 2).trans (rfl : _ = some (Value.bool y.f2))
            have z3 := (blk_cell A0.out 3).trans (rfl : _ = some (Value.string y.f3))
            have z4 := (blk_cell A0.out 4).trans (rfl : _ = some (Value.slice (some ad) y.f4.length cy))
            have u0 := blk_nofreeze A0.out 0
            have u1 := blk_nofreeze A0.out 1
            have u2 := blk_nofreeze A0.out 2
            have u3 := blk_nofreeze A0.out 3
            have u4 := blk_nofreeze A0.out 4
            have hln : y.f4.length ≤ 9223372036854775807 := HI.out.k.1.2.1
            gi_wp2_with fail
            exact go_of HI.out.z A0.out A1.out A2.out HX.out (findP_go HI.out.e HDR.out HS.out) (below_then HB.out HB.out.size H1.out) H1.out HLT.out
      · have hkb : (y.f1 == 2) = false := beq_eq_false_iff_ne.mpr hkd
        gi_wp2_with fail
        exact stop_of HI.out.z A1.out A2.out (findP_stop HI.out.e HDR.out (if_neg (fun h => hkd h.1))) HB.out (Below.refl _ _) HLT.out
    · intro D Z' W' hle hi hst hD hnD
      obtain ⟨y, Ay, cy, h⟩ := hi
      rw [List.length_map] at h
      have HE := Aside0.mk (show findP t (splitP path) = some y from by rw [h.e, List.drop_length]; rfl)
      have hZD := h.z
      have HI := Aside0.mk h
      have HD := Aside0.mk (And.intro hle (And.intro hD hnD))
      have z0 := (blk_cell h.n 0).trans (rfl : _ = some (Value.string y.f0))
      have z1 := (blk_cell h.n 1).trans (rfl : _ = some (Value.int .i64 y.f1))
      have z2 := (blk_cell h.n 2).trans (rfl : _ = some (Value.bool y.f2))
      have z3 := (blk_cell h.n 3).trans (rfl : _ = some (Value.string y.f3))
      have z4 := (blk_cell h.n 4).trans (rfl : _ = some (Value.slice Ay y.f4.length cy))
      have x0 := (blk_cell h.r 0).trans (rfl : _ = some (Value.string ⟨#[]⟩))
      have x1 := (blk_cell h.r 1).trans (rfl : _ = some (Value.int .i64 0))
      have x2 := (blk_cell h.r 2).trans (rfl : _ = some (Value.bool false))
      have x3 := (blk_cell h.r 3).trans (rfl : _ = some (Value.string ⟨#[]⟩))
      have x4 := (blk_cell h.r 4).trans (rfl : _ = some (Value.slice none 0 0))
      have u0 := blk_nofreeze h.r 0
      have u1 := blk_nofreeze h.r 1
      have u2 := blk_nofreeze h.r 2
      have u3 := blk_nofreeze h.r 3
      have u4 := blk_nofreeze h.r 4
      have v0 := (blk_cell h.f 0).trans (rfl : _ = some (Value.bool false))
      have v1 := blk_nofreeze h.f 0
      clear hst hle hD hnD hZD h hzin
      gi_wp2_with fail
      clear z0 z1 z2 z3 z4 x0 x1 x2 x3 x4 u0 u1 u2 u3 u4 v0 v1
      have hr1 : ((((((W'.setCell ⟨w.heap.size + 1, 0, none⟩ (.string y.f0)).setCell ⟨w.heap.size + 1, 1, none⟩ (.int .i64 y.f1)).setCell ⟨w.heap.size + 1, 2, none⟩ (.bool y.f2)).setCell ⟨w.heap.size + 1, 3, none⟩ (.string y.f3)).setCell ⟨w.heap.size + 1, 4, none⟩ (.slice Ay y.f4.length cy)).setCell ⟨w.heap.size + 1 + 1, 0, none⟩ (.bool true)).heap[w.heap.size + 1]? = some (nodeCells y Ay cy) := by
        refine (Below.heap_setCell _ ⟨w.heap.size + 1 + 1, 0, none⟩ _ _ (by show w.heap.size + 1 ≠ w.heap.size + 1 + 1; omega)).trans ?_
        exact (blk_store (l := [_, _, _, _, _]) (blk_store (l := [_, _, _, _, _]) (blk_store (l := [_, _, _, _, _]) (blk_store (l := [_, _, _, _, _]) (blk_store (l := [_, _, _, _, _]) HI.out.r 0 _) 1 _) 2 _) 3 _) 4 _).trans rfl
      have hf1 : ((((((W'.setCell ⟨w.heap.size + 1, 0, none⟩ (.string y.f0)).setCell ⟨w.heap.size + 1, 1, none⟩ (.int .i64 y.f1)).setCell ⟨w.heap.size + 1, 2, none⟩ (.bool y.f2)).setCell ⟨w.heap.size + 1, 3, none⟩ (.string y.f3)).setCell ⟨w.heap.size + 1, 4, none⟩ (.slice Ay y.f4.length cy)).setCell ⟨w.heap.size + 1 + 1, 0, none⟩ (.bool true)).heap[w.heap.size + 1 + 1]? = some (.cells #[.bool true] 4 (0, 0)) := by
        refine (blk_store (l := [_]) (?_ : _ = some (Obj.cells #[Value.bool false] 4 (0, 0))) 0 _).trans rfl
        refine (Below.heap_setCell _ ⟨w.heap.size + 1, 4, none⟩ _ _ (by show w.heap.size + 1 + 1 ≠ w.heap.size + 1; omega)).trans ?_
        refine (Below.heap_setCell _ ⟨w.heap.size + 1, 3, none⟩ _ _ (by show w.heap.size + 1 + 1 ≠ w.heap.size + 1; omega)).trans ?_
        refine (Below.heap_setCell _ ⟨w.heap.size + 1, 2, none⟩ _ _ (by show w.heap.size + 1 + 1 ≠ w.heap.size + 1; omega)).trans ?_
        refine (Below.heap_setCell _ ⟨w.heap.size + 1, 1, none⟩ _ _ (by show w.heap.size + 1 + 1 ≠ w.heap.size + 1; omega)).trans ?_
        refine (Below.heap_setCell _ ⟨w.heap.size + 1, 0, none⟩ _ _ (by show w.heap.size + 1 + 1 ≠ w.heap.size + 1; omega)).trans HI.out.f
      have hlow : Below w.heap.size w ((((((W'.setCell ⟨w.heap.size + 1, 0, none⟩ (.string y.f0)).setCell ⟨w.heap.size + 1, 1, none⟩ (.int .i64 y.f1)).setCell ⟨w.heap.size + 1, 2, none⟩ (.bool y.f2)).setCell ⟨w.heap.size + 1, 3, none⟩ (.string y.f3)).setCell ⟨w.heap.size + 1, 4, none⟩ (.slice Ay y.f4.length cy)).setCell ⟨w.heap.size + 1 + 1, 0, none⟩ (.bool true)) :=
        (((((HI.out.b.setCell (p := ⟨w.heap.size + 1, 0, none⟩) (Nat.le_succ _) _).setCell (p := ⟨w.heap.size + 1, 1, none⟩) (Nat.le_succ _) _).setCell (p := ⟨w.heap.size + 1, 2, none⟩) (Nat.le_succ _) _).setCell (p := ⟨w.heap.size + 1, 3, none⟩) (Nat.le_succ _) _).setCell (p := ⟨w.heap.size + 1, 4, none⟩) (Nat.le_succ _) _).setCell (p := ⟨w.heap.size + 1 + 1, 0, none⟩) (Nat.le_succ_of_le (Nat.le_succ _)) _
      have hD1 : ((((((W'.setCell ⟨w.heap.size + 1, 0, none⟩ (.string y.f0)).setCell ⟨w.heap.size + 1, 1, none⟩ (.int .i64 y.f1)).setCell ⟨w.heap.size + 1, 2, none⟩ (.bool y.f2)).setCell ⟨w.heap.size + 1, 3, none⟩ (.string y.f3)).setCell ⟨w.heap.size + 1, 4, none⟩ (.slice Ay y.f4.length cy)).setCell ⟨w.heap.size + 1 + 1, 0, none⟩ (.bool true)).heap[D]? = some (.deferred (some [])) := by
        have h1 := XA.out.2.2.2.2.2.2.2
        have h2 := HD.out.1
        refine (Below.heap_setCell _ ⟨w.heap.size + 1 + 1, 0, none⟩ _ _ (by show D ≠ w.heap.size + 1 + 1; omega)).trans ?_
        refine (Below.heap_setCell _ ⟨w.heap.size + 1, 4, none⟩ _ _ (by show D ≠ w.heap.size + 1; omega)).trans ?_
        refine (Below.heap_setCell _ ⟨w.heap.size + 1, 3, none⟩ _ _ (by show D ≠ w.heap.size + 1; omega)).trans ?_
        refine (Below.heap_setCell _ ⟨w.heap.size + 1, 2, none⟩ _ _ (by show D ≠ w.heap.size + 1; omega)).trans ?_
        refine (Below.heap_setCell _ ⟨w.heap.size + 1, 1, none⟩ _ _ (by show D ≠ w.heap.size + 1; omega)).trans ?_
        exact (Below.heap_setCell _ ⟨w.heap.size + 1, 0, none⟩ _ _ (by show D ≠ w.heap.size + 1; omega)).trans HD.out.2.1
      generalize ((((((W'.setCell ⟨w.heap.size + 1, 0, none⟩ (.string y.f0)).setCell ⟨w.heap.size + 1, 1, none⟩ (.int .i64 y.f1)).setCell ⟨w.heap.size + 1, 2, none⟩ (.bool y.f2)).setCell ⟨w.heap.size + 1, 3, none⟩ (.string y.f3)).setCell ⟨w.heap.size + 1, 4, none⟩ (.slice Ay y.f4.length cy)).setCell ⟨w.heap.size + 1 + 1, 0, none⟩ (.bool true)) = W9 at hr1 hf1 hlow hD1 ⊢
      show LeavesInM Fence.wide 3 _ _ _ _ (marks [D]) .returning W9
      have hDn : w.heap.size + 6 ≤ D := by have := XA.out.2.2.2.2.2.2.2; have := HD.out.1; omega
      refine leaves_marks (fun W => W.heap[w.heap.size + 1]? = some (nodeCells y Ay cy) ∧ W.heap[w.heap.size + 1 + 1]? = some (.cells #[.bool true] 4 (0, 0)) ∧ Below w.heap.size w W) (fun W hK => res_find (r4 := w.heap.size + 1) (r5 := w.heap.size + 1 + 1) _ W y Ay cy true rfl rfl hK.1 hK.2.1) (fun W hK => ?_) [D] W9 (by simp) (fun E hE => by obtain rfl := List.mem_singleton.1 hE; exact hD1) (fun W E hE hK => ?_) ⟨hr1, hf1, hlow⟩
      · rw [← HPOST.out, HE.out]
        exact ⟨y, Ay, cy, rfl, rfl, HI.out.k.1, HI.out.k.2, hK.2.2⟩
      · obtain rfl := List.mem_singleton.1 hE
        exact ⟨(World.putObj_heap_other (by omega)).trans hK.1, (World.putObj_heap_other (by omega)).trans hK.2.1, low_of hK.2.2 (below0_putObj _ _ _) (fun k _ h2 => World.putObj_heap_other (by omega))⟩
    · intro D i Z' W' hle hi hst hD hnD
      have HI := Aside0.mk hi
      have HD := Aside0.mk (And.intro hle (And.intro hD hnD))
      clear hi hst hle hD hnD hzin
      gi_wp2_with fail
      show LeavesInM Fence.wide 3 _ _ _ _ (marks [D]) .returning W'
      have hDn : w.heap.size + 6 ≤ D := by have := XA.out.2.2.2.2.2.2.2; have := HD.out.1; omega
      refine leaves_marks (fun W => W.heap[w.heap.size + 1]? = some zeroCells ∧ W.heap[w.heap.size + 2]? = some (.cells #[.bool false] 4 (0, 0)) ∧ Below w.heap.size w W) (fun W hK => res_find (r4 := w.heap.size + 1) (r5 := w.heap.size + 1 + 1) _ W z24 none 0 false rfl rfl hK.1 hK.2.1) (fun W hK => ?_) [D] W' (by simp) (fun E hE => by obtain rfl := List.mem_singleton.1 hE; exact HD.out.2.1) (fun W E hE hK => ?_) ⟨HI.out.r, HI.out.f, HI.out.b⟩
      · rw [← HPOST.out, HI.out.e]
        exact ⟨z24, none, 0, rfl, rfl, ⟨rfl, by show (0 : Nat) ≤ 9223372036854775807; omega, fun h => absurd h (by show ¬ (0 < 0); omega)⟩, Nat.le_refl _, hK.2.2⟩
      · obtain rfl := List.mem_singleton.1 hE
        exact ⟨(World.putObj_heap_other (by omega)).trans hK.1, (World.putObj_heap_other (by omega)).trans hK.2.1, low_of hK.2.2 (below0_putObj _ _ _) (fun k _ h2 => World.putObj_heap_other (by omega))⟩
end Go.Proofs.YtalljcjignaafaaDoor.PB
namespace Go.Proofs.YtalljcjignaafaaDoor.PB
open Go Go.RowKit Go.Proofs.YtalljcjignaafaaDoor Go.Proofs.YtalljcjignaafaaDoorW.PrintWords Go.Proofs.YtalljcjignaafaaDoorW.PrintLast
set_option linter.unusedVariables false
set_option linter.unusedSimpArgs false
theorem rd_mem (ks : List Tree) (i : Int) (h0 : 0 ≤ i) (h1 : i < ks.length) : rd_T24 ks i ∈ ks := by
  obtain ⟨k, rfl⟩ : ∃ k : Nat, i = (k : Int) := ⟨i.toNat, by omega⟩
  rw [rd_at ks k (by omega)]
  exact List.getElem_mem _
end Go.Proofs.YtalljcjignaafaaDoor.PB
namespace Go.Proofs.YtalljcjignaafaaDoor.PB
open Go Go.RowKit Go.Proofs.YtalljcjignaafaaDoor Go.Proofs.YtalljcjignaafaaDoorW.PrintWords Go.Proofs.YtalljcjignaafaaDoorW.PrintLast
set_option linter.unusedVariables false
set_option linter.unusedSimpArgs false
end Go.Proofs.YtalljcjignaafaaDoor.PB
namespace Go.Proofs.YtalljcjignaafaaDoor.PB
open Go Go.RowKit Go.Proofs.YtalljcjignaafaaDoor Go.Proofs.YtalljcjignaafaaDoorW.PrintWords Go.Proofs.YtalljcjignaafaaDoorW.PrintLast Go.Proofs.YtalljcjignaafaaDoorW.PrintMore
set_option linter.unusedVariables false
set_option linter.unusedSimpArgs false
/-- All that lay in W lies in W', but for one block. -/
def KB (b : Nat) (W W' : World) : Prop := Below 0 W W' ∧ ∀ k, k < W.heap.size → k ≠ b → W'.heap[k]? = W.heap[k]?
theorem KB.refl (b : Nat) (W : World) : KB b W W := ⟨Below.refl _ _, fun _ _ _ => rfl⟩
theorem KB.size {b : Nat} {W W' : World} (h : KB b W W') : W.heap.size ≤ W'.heap.size := h.1.size
theorem KB.trans {b : Nat} {A B C : World} (h : KB b A B) (k : KB b B C) : KB b A C := ⟨below0_trans h.1 k.1, fun i hi hb => (k.2 i (Nat.lt_of_lt_of_le hi h.size) hb).trans (h.2 i hi hb)⟩
theorem KB.of_below {b : Nat} {W W' : World} (h : Below W.heap.size W W') : KB b W W' := ⟨h.mono (Nat.zero_le _), fun k hk _ => h.block k hk⟩
end Go.Proofs.YtalljcjignaafaaDoor.PB
namespace Go.Proofs.YtalljcjignaafaaDoor
open Go.RowKit Go.Proofs.YtalljcjignaafaaDoor.PB Go.Proofs.YtalljcjignaafaaDoorW.PrintWords Go.Proofs.YtalljcjignaafaaDoorW.PrintLast
set_option linter.unusedVariables false
set_option linter.unusedSimpArgs false
/-- A small node: its name, its data, and how many kids. -/
inductive Lim : Tree → Prop
  | mk (t : Tree) (h0 : t.f0.size ≤ 30) (h3 : t.f3.size ≤ 300) (h4 : t.f4.length ≤ 6) (hk : ∀ k, k ∈ t.f4 → Lim k) : Lim t
theorem Lim.name {t : Tree} (h : Lim t) : t.f0.size ≤ 30 := by cases h; assumption
theorem Lim.data {t : Tree} (h : Lim t) : t.f3.size ≤ 300 := by cases h; assumption
theorem Lim.kids {t : Tree} (h : Lim t) : t.f4.length ≤ 6 := by cases h; assumption
theorem Lim.kid {t : Tree} (h : Lim t) : ∀ k ∈ t.f4, Lim k := by cases h; assumption
end Go.Proofs.YtalljcjignaafaaDoor
namespace Go.Proofs.YtalljcjignaafaaDoor.PB
open Go Go.RowKit Go.Proofs.YtalljcjignaafaaDoor Go.Proofs.YtalljcjignaafaaDoorW.PrintWords Go.Proofs.YtalljcjignaafaaDoorW.PrintLast Go.Proofs.YtalljcjignaafaaDoorW.PrintMore
set_option linter.unusedVariables false
set_option linter.unusedSimpArgs false
end Go.Proofs.YtalljcjignaafaaDoor.PB
namespace Go.Proofs.YtalljcjignaafaaDoor.PB
open Go Go.RowKit Go.Proofs.YtalljcjignaafaaDoor Go.Proofs.YtalljcjignaafaaDoorW.PrintWords Go.Proofs.YtalljcjignaafaaDoorW.PrintLast Go.Proofs.YtalljcjignaafaaDoorW.PrintMore
set_option linter.unusedVariables false
set_option linter.unusedSimpArgs false
set_option maxRecDepth 100000 in
theorem file_x (a b : ByteArray) (w : World) : Calls Tryd.prog 17 #[.string a, .string b] w fun e w' => e = .returned (.agg #[.string a, .int .i64 1, .bool false, .string b, .slice none 0 0]) ∧ Below w.heap.size w w' := by
  have hu := Tryd.underlying24
  go_enter Tryd.func17, Tryd.ntmps17
  go_wp2_with fail
  refine bodyPost_ret (results_cell_row rfl _ _ w.heap.size 24 #[.string a, .int .i64 1, .bool false, .string b, .slice none 0 0] (0, 0) _ rfl (heap_alloc_new w _) Tryd.underlying24 rfl (by kernel_rfl)) rfl ?_
  exact ⟨rfl, below_alloc (Below.refl _ w) _⟩
set_option maxRecDepth 100000 in
theorem link_x (a b : ByteArray) (w : World) : Calls Tryd.prog 19 #[.string a, .string b] w fun e w' => e = .returned (.agg #[.string a, .int .i64 3, .bool false, .string b, .slice none 0 0]) ∧ Below w.heap.size w w' := by
  have hu := Tryd.underlying24
  go_enter Tryd.func19, Tryd.ntmps19
  go_wp2_with fail
  refine bodyPost_ret (results_cell_row rfl _ _ w.heap.size 24 #[.string a, .int .i64 3, .bool false, .string b, .slice none 0 0] (0, 0) _ rfl (heap_alloc_new w _) Tryd.underlying24 rfl (by kernel_rfl)) rfl ?_
  exact ⟨rfl, below_alloc (Below.refl _ w) _⟩
set_option maxRecDepth 100000 in
theorem dir_x (a : ByteArray) (A : Option Addr) (n c : Nat) (w : World) : Calls Tryd.prog 18 #[.string a, .slice A n c] w fun e w' => e = .returned (.agg #[.string a, .int .i64 2, .bool false, .string ⟨#[]⟩, .slice A n c]) ∧ Below w.heap.size w w' := by
  have hu := Tryd.underlying24
  go_enter Tryd.func18, Tryd.ntmps18
  go_wp2_with fail
  refine bodyPost_ret (results_cell_row rfl _ _ w.heap.size 24 #[.string a, .int .i64 2, .bool false, .string ⟨#[]⟩, .slice A n c] (0, 0) _ rfl (heap_alloc_new w _) Tryd.underlying24 rfl (by kernel_rfl)) rfl ?_
  exact ⟨rfl, below_alloc (Below.refl _ w) _⟩
end Go.Proofs.YtalljcjignaafaaDoor.PB

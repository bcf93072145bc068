import Derived.RangeFuncNested
import Derived.RangeFuncBound
import Derived.RangeFuncCalls
import Derived.RangeFuncLeaves
import Derived.WalkKit
import Derived.OwnWalkIn
import Derived.TacticsInMore
import Derived.LoopNIn
import Derived.LoopIn
import Derived.Test.YtalljcjignaafaaDoorProg
namespace Go.Proofs.YtalljcjignaafaaDoor
open Go Go.RowKit
set_option linter.unusedVariables false
set_option linter.unusedSimpArgs false
structure Stp (Z Z' : Nat → Prop) (W W' : World) : Prop where
  low : Below 0 W W'
  keep : ∀ k, k < W.heap.size → ¬ Z k → W'.heap[k]? = W.heap[k]?
  grow : ∀ k, Z' k → Z k ∨ W.heap.size ≤ k
  lt : ∀ k, Z' k → k < W'.heap.size
theorem Stp.size {Z Z' : Nat → Prop} {W W' : World} (h : Stp Z Z' W W') : W.heap.size ≤ W'.heap.size := h.low.size
theorem Stp.refl {Z : Nat → Prop} {W : World} (hz : ∀ k, Z k → k < W.heap.size) : Stp Z Z W W := ⟨Below.refl _ _, fun _ _ _ => rfl, fun _ h => .inl h, hz⟩
theorem below0_trans {A B C : World} (h : Below 0 A B) (k : Below 0 B C) : Below 0 A C := h.trans k
theorem Stp.trans {Z Z1 Z2 : Nat → Prop} {A B C : World} (h : Stp Z Z1 A B) (k : Stp Z1 Z2 B C) : Stp Z Z2 A C :=
  ⟨below0_trans h.low k.low, fun i hi hz => (k.keep i (Nat.lt_of_lt_of_le hi h.size) (fun hz1 => by rcases h.grow i hz1 with h1 | h1; exact hz h1; omega)).trans (h.keep i hi hz),
    fun i hi => by rcases k.grow i hi with h1 | h1; exact h.grow i h1; exact .inr (Nat.le_trans h.size h1), k.lt⟩
/-- What is new alone. -/
theorem Stp.of_below {Z : Nat → Prop} {W W' : World} (h : Below W.heap.size W W') (hz : ∀ k, Z k → k < W.heap.size) : Stp Z Z W W' :=
  ⟨h.mono (Nat.zero_le _), fun k hk _ => h.block k hk, fun k hk => .inl hk, fun k hk => Nat.lt_of_lt_of_le (hz k hk) h.size⟩
/-- Told by what lies below B, and by Z's blocks. -/
def Seen (B : Nat) (J : Nat → (Nat → Prop) → World → Prop) : Prop :=
  ∀ i Z W W', J i Z W → Below 0 W W' → (∀ k, k < W.heap.size → (k < B ∨ Z k) → W'.heap[k]? = W.heap[k]?) → J i Z W'
/-- The iterator hands on each of xs, and has done. -/
def ItAll (P : Program) (g : Nat) (lb : Array Value) (xs : List (Array Value)) (Z0 : Nat → Prop) (W : World) : Prop :=
  ∀ (n l : Nat) (J : Nat → (Nat → Prop) → World → Prop), Seen W.heap.size J → J 0 Z0 W → (∀ k, Z0 k → k < W.heap.size) →
    (∀ i Z W1 (h : i < xs.length), J i Z W1 → Stp Z0 Z W W1 → YieldAt Fence.wide (n - 1) P l xs[i] W1 fun e W' => e = .returned (.bool true) ∧ ∃ Z', J (i + 1) Z' W' ∧ Stp Z Z' W1 W') →
    CallsIn Fence.wide n P g (#[.func (.yield l) #[] #[]] ++ lb) W fun e W' => (∃ v, e = .returned v) ∧ ∃ Z', J xs.length Z' W' ∧ Stp Z0 Z' W W'
theorem below0_putObj (W : World) (l : Nat) (o : Obj) : Below 0 W (W.putObj l o) := ⟨rfl, rfl, rfl, by simp, fun i hi => absurd hi (Nat.not_lt_zero _)⟩
variable {n : Nat} {P : Program}
theorem wpIn_range_all {g : Operand} {ps : Array Tmp} {assign body : Code} {Q : Exit → Act → World → Prop} {a : Act} {w : World}
    {gf : Nat} {lb : Array Value} (hg : a.eval g = .func (.func gf) #[] lb) (eg : ∀ args w, (callFunc gf args).run P w = .ok (.enter gf args) w)
    (xs : List (Array Value)) (hps : ∀ x ∈ xs, x.size = ps.size) (Z0 : Nat → Prop) (hz0 : ∀ k, Z0 k → k < w.heap.size)
    (hit : ∀ W, Below w.heap.size w W → ItAll P gf lb xs Z0 W)
    (I : Nat → (Nat → Prop) → World → Prop) (hI : Seen w.heap.size I) (h0 : I 0 Z0 w)
    (hround : ∀ (l i : Nat) (Z : Nat → Prop) (W : World) (h : i < xs.length), w.heap.size ≤ l → I i Z W → Stp Z0 Z w W → ¬ Z l → l < W.heap.size →
      assign.wpIn (Fence.wide.inRound l) (n - 1 - 1) P (Exit.then (fun a1 W2 => Below W.heap.size W W2 ∧ ∀ W3, Below 0 W2 W3 → W3.heap.size = W2.heap.size → (∀ k, k ≠ l → W3.heap[k]? = W2.heap[k]?) →
        body.wpIn (Fence.wide.inRound l) (n - 1 - 1) P (fun e _ W4 => e = .normal ∧ ∃ Z', I (i + 1) Z' W4 ∧ Stp Z Z' W3 W4) a1 W3) (fun _ _ _ => False))
        { tmps := (ps.zip xs[i]).foldl (fun t (p, v) => t.setIfInBounds p v) a.tmps, defers := [] } W)
    (hdone : ∀ (D : Nat) (Z' : Nat → Prop) (W : World), w.heap.size ≤ D → I xs.length Z' W → Stp Z0 Z' w W → W.heap[D]? = some (.deferred (some [])) → ¬ Z' D →
      Q .normal { a with defers := { target := .collected D, args := #[] } :: a.defers } W) :
    (Code.rangeFunc g ps assign body).wpIn Fence.wide n P Q a w := by
  refine wpIn_rangeFunc ?_
  intro fn hfn
  rw [show Fence.wide.round = none from rfl]
  obtain ⟨rec, hrec⟩ : ∃ rec : LoopState → Option Code → Loop, rec = fun st pe => { state := st, pending := pe, fn, tmps := a.tmps, params := ps, assign, body, defers := w.heap.size } := ⟨_, rfl⟩
  obtain ⟨W1, hW1⟩ : ∃ W1, (w.alloc (.deferred (some []))).alloc (.loop (rec .ready none)) = W1 := ⟨_, rfl⟩
  have hL1 : W1.heap[w.heap.size + 1]? = some (.loop (rec .ready none)) := by
    rw [← hW1]; have := World.alloc_heap_new (w.alloc (.deferred (some []))) (.loop (rec .ready none)); rwa [World.size_alloc] at this
  have hK1 : W1.heap[w.heap.size]? = some (.deferred (some [])) := by
    rw [← hW1]; exact (Below.heap_alloc _ _ _ (by simp)).trans (World.alloc_heap_new w _)
  have hs1 : W1.heap.size = w.heap.size + 2 := by rw [← hW1]; simp
  have hb1 : Below w.heap.size w W1 := by
    rw [← hW1]; exact ((Below.refl _ w).alloc (Nat.le_refl _) _).alloc (by simp) _
  have hI1 : I 0 Z0 W1 := hI 0 Z0 w W1 h0 (hb1.mono (Nat.zero_le _)) (fun k hk _ => hb1.block k hk)
  have hS1 : Stp Z0 Z0 w W1 := Stp.of_below hb1 hz0
  refine ⟨w.heap.size + 1, [{ target := .collected w.heap.size, args := #[] }], W1, { target := .fn (.func gf) lb, args := #[.func (.yield (w.heap.size + 1)) #[] #[]] }, W1, gf,
    #[.func (.yield (w.heap.size + 1)) #[] #[]] ++ lb, W1, ?_, ?_, ?_, ?_, fun h => (by simp [Fence.wide] at h), ?_⟩
  · rw [← hW1, hrec]; exact run_enterLoop_outer _ _ _ _ _
  · simp only [resolve, hg]
    simp [go_sem]
  · intro f' hf'; exact trivial
  · simp [invoke, go_sem, eg]
  · refine (hit W1 hb1 (n - 1) (w.heap.size + 1)
      (fun i Z W => I i Z W ∧ W.heap[w.heap.size + 1]? = some (.loop (rec .ready none)) ∧ W.heap[w.heap.size]? = some (.deferred (some [])) ∧ ¬ Z (w.heap.size + 1) ∧ ¬ Z w.heap.size)
      ?_ ⟨hI1, hL1, hK1, fun h => by have := hz0 _ h; omega, fun h => by have := hz0 _ h; omega⟩ (fun k hk => by have := hz0 k hk; omega) ?_).mono ?_
    · rintro i Z A B ⟨h1, h2, h3, h4, h5⟩ hb hk
      have hl := (Array.getElem?_eq_some_iff.1 h2).1
      exact ⟨hI i Z A B h1 hb (fun k hlt hc => hk k hlt (by rcases hc with hc | hc; exact .inl (by omega); exact .inr hc)), (hk _ hl (.inl (by omega))).trans h2, (hk _ (by omega) (.inl (by omega))).trans h3, h4, h5⟩
    · rintro i Z W h ⟨hi, hl, hk, hn1, hn2⟩ hst
      have hlt : w.heap.size + 1 < W.heap.size := (Array.getElem?_eq_some_iff.1 hl).1
      have hy := run_yield (P := P) (args := xs[i]) hl (by rw [hrec]; exact hps _ (List.getElem_mem h))
      rw [hrec] at hy
      have hstw : Stp Z0 Z w W := hS1.trans hst
      refine ⟨fn, _, assign, body, hy, roundIn_of_wpIn trivial (wpIn_mono (hround (w.heap.size + 1) i Z W h (by omega) hi hstw hn1 hlt) ?_)⟩
      rintro e a1 W2 hp
      cases e with
      | normal =>
        obtain ⟨hb2, hbody⟩ := hp
        have hl2 : W2.heap[w.heap.size + 1]? = some (.loop (rec .ready none)) := (hb2.block _ hlt).trans hl
        refine ⟨_, run_beginRound hl2 (by rw [hrec]), ?_⟩
        have hlt2 : w.heap.size + 1 < W2.heap.size := (Array.getElem?_eq_some_iff.1 hl2).1
        have hl3 : (W2.putObj (w.heap.size + 1) (.loop { rec .ready none with state := .busy })).heap[w.heap.size + 1]? = some (.loop { rec .ready none with state := .busy }) := World.putObj_heap_same hlt2
        refine wpIn_mono (hbody _ (below0_putObj _ _ _) (by simp) (fun k hk => World.putObj_heap_other hk)) ?_
        rintro e3 a3 W4 ⟨rfl, Z', hi4, hs4⟩
        have hl4 := (hs4.keep (w.heap.size + 1) (by simp; omega) hn1).trans hl3
        have hlt4 : w.heap.size + 1 < W4.heap.size := (Array.getElem?_eq_some_iff.1 hl4).1
        have hn1' : ¬ Z' (w.heap.size + 1) := fun hz => by rcases hs4.grow _ hz with h1 | h1; exact hn1 h1; simp at h1; omega
        have hn2' : ¬ Z' w.heap.size := fun hz => by rcases hs4.grow _ hz with h1 | h1; exact hn2 h1; simp at h1; omega
        have her := run_endRound (P := P) none hl4
        rw [hrec] at her
        refine ⟨_, _, her, rfl, Z', ⟨?_, ?_, ?_, hn1', hn2'⟩, ?_⟩
        · exact hI _ _ _ _ hi4 (below0_putObj _ _ _) (fun k hk hc => World.putObj_heap_other (by rintro rfl; rcases hc with hc | hc; omega; exact hn1' hc))
        · rw [hrec]; exact World.putObj_heap_same hlt4
        · refine (World.putObj_heap_other (by omega)).trans ((hs4.keep w.heap.size (by simp; omega) hn2).trans ((World.putObj_heap_other (by omega)).trans ((hb2.block _ (by omega)).trans hk)))
        · refine ⟨below0_trans (hb2.mono (Nat.zero_le _)) (below0_trans (below0_putObj _ _ _) (below0_trans hs4.low (below0_putObj _ _ _))), fun k hkl hz => ?_, fun k hkz => ?_, fun k hkz => by simp; exact hs4.lt k hkz⟩
          · by_cases hkk : k = w.heap.size + 1
            · subst hkk
              rw [hl, hrec]; exact World.putObj_heap_same hlt4
            · exact (World.putObj_heap_other hkk).trans ((hs4.keep k (by simp; have := hb2.size; omega) hz).trans ((World.putObj_heap_other hkk).trans (hb2.block k hkl)))
          · rcases hs4.grow k hkz with h1 | h1
            · exact .inl h1
            · right; simp at h1; have := hb2.size; omega
      | exit id => exact hp.elim
      | goto t => exact hp.elim
      | ret => exact hp.elim
      | panic chain => exact hp.elim
      | outgrown => exact hp.elim
    · rintro e W2 ⟨⟨v, rfl⟩, Z', ⟨hi, hl, hk, hn1, hn2⟩, hst⟩
      have hend := run_endLoop (P := P) hl (by rw [hrec]; simp)
      rw [hrec] at hend
      refine ⟨none, _, hend, ?_⟩
      have hlt : w.heap.size + 1 < W2.heap.size := (Array.getElem?_eq_some_iff.1 hl).1
      refine hdone w.heap.size Z' _ (Nat.le_refl _) (hI _ _ _ _ hi (below0_putObj _ _ _) (fun k hkl hc => World.putObj_heap_other (by rintro rfl; rcases hc with hc | hc; omega; exact hn1 hc))) ?_ ((World.putObj_heap_other (by omega)).trans hk) hn2
      have h2 : Stp Z0 Z' w W2 := hS1.trans hst
      exact ⟨below0_trans h2.low (below0_putObj _ _ _), fun k hkl hz => (World.putObj_heap_other (by omega)).trans (h2.keep k hkl hz), h2.grow, fun k hkz => by simp; exact h2.lt k hkz⟩
def marks (ds : List Nat) : List Deferred := ds.map fun D => { target := .collected D, args := #[] }
theorem leaves_marks {fn : Func} {tmps : Array Value} {R : Ending → World → Prop} {v : Value} (K : World → Prop) (hres : ∀ W, K W → (results fn tmps).run P W = .ok v W) (hR : ∀ W, K W → R (.returned v) W) :
    ∀ (ds : List Nat) (W : World), ds.Nodup → (∀ D ∈ ds, W.heap[D]? = some (.deferred (some []))) → (∀ W D, D ∈ ds → K W → K (W.putObj D (.deferred none))) → K W → LeavesInM Fence.wide n P fn tmps R (marks ds) .returning W
  | [], W, _, _, _, hK => ⟨v, hres W hK, hR W hK⟩
  | D :: ds, W, hnd, hd, hp, hK => by
    refine ⟨by simp, .inl ⟨D, _, rfl, run_takeDeferred (hd D (by simp)), ?_⟩⟩
    have hnd' := List.nodup_cons.1 hnd
    exact leaves_marks K hres hR ds _ hnd'.2 (fun E hE => (World.putObj_heap_other (by rintro rfl; exact hnd'.1 hE)).trans (hd E (by simp [hE]))) (fun W E hE h => hp W E (by simp [hE]) h) (hp W D (by simp) hK)
end Go.Proofs.YtalljcjignaafaaDoor
namespace Go.Proofs.YtalljcjignaafaaDoor
open Go Go.RowKit
set_option linter.unusedVariables false
set_option linter.unusedSimpArgs false
/-- As Stp, but that the iterator may turn its own boxes O. -/
structure StpO (O Z Z' : Nat → Prop) (W W' : World) : Prop where
  low : Below 0 W W'
  keep : ∀ k, k < W.heap.size → ¬ Z k → ¬ O k → W'.heap[k]? = W.heap[k]?
  grow : ∀ k, Z' k → Z k ∨ W.heap.size ≤ k
  lt : ∀ k, Z' k → k < W'.heap.size
theorem StpO.size {O Z Z' : Nat → Prop} {W W' : World} (h : StpO O Z Z' W W') : W.heap.size ≤ W'.heap.size := h.low.size
theorem Stp.o {O Z Z' : Nat → Prop} {W W' : World} (h : Stp Z Z' W W') : StpO O Z Z' W W' := ⟨h.low, fun k hk hz _ => h.keep k hk hz, h.grow, h.lt⟩
theorem StpO.trans {O Z Z1 Z2 : Nat → Prop} {A B C : World} (h : StpO O Z Z1 A B) (k : StpO O Z1 Z2 B C) : StpO O Z Z2 A C :=
  ⟨below0_trans h.low k.low, fun i hi hz ho => (k.keep i (Nat.lt_of_lt_of_le hi h.size) (fun hz1 => by rcases h.grow i hz1 with h1 | h1; exact hz h1; omega) ho).trans (h.keep i hi hz ho),
    fun i hi => by rcases k.grow i hi with h1 | h1; exact h.grow i h1; exact .inr (Nat.le_trans h.size h1), k.lt⟩
def SeenO (O : Nat → Prop) (B : Nat) (J : Nat → (Nat → Prop) → World → Prop) : Prop :=
  ∀ i Z W W', J i Z W → Below 0 W W' → (∀ k, k < W.heap.size → ((k < B ∧ ¬ O k) ∨ Z k) → W'.heap[k]? = W.heap[k]?) → J i Z W'
variable {n : Nat} {P : Program}
/-- The iterator hands on each of xs, or as many as are wanted, and has done. -/
def ItSome (P : Program) (g : Nat) (lb : Array Value) (xs : List (Array Value)) (O Z0 : Nat → Prop) (W : World) : Prop :=
  ∀ (n l : Nat) (J Jx : Nat → (Nat → Prop) → World → Prop), SeenO O W.heap.size J → SeenO O W.heap.size Jx → J 0 Z0 W → (∀ k, Z0 k → k < W.heap.size) →
    (∀ i Z W1 (h : i < xs.length), J i Z W1 → StpO O Z0 Z W W1 → YieldAt Fence.wide (n - 1) P l xs[i] W1 fun e W' => (e = .returned (.bool true) ∧ ∃ Z', J (i + 1) Z' W' ∧ Stp Z Z' W1 W') ∨ (e = .returned (.bool false) ∧ ∃ Z', Jx i Z' W' ∧ Stp (fun k => Z k ∨ k = l) Z' W1 W')) →
    CallsIn Fence.wide n P g (#[.func (.yield l) #[] #[]] ++ lb) W fun e W' => (∃ v, e = .returned v) ∧ ((∃ Z', J xs.length Z' W' ∧ StpO O Z0 Z' W W') ∨ (∃ i Z', Jx i Z' W' ∧ StpO O (fun k => Z0 k ∨ k = l) Z' W W'))
theorem wpIn_range_some {g : Operand} {ps : Array Tmp} {assign body : Code} {Q : Exit → Act → World → Prop} {a : Act} {w : World}
    {gf : Nat} {lb : Array Value} (hg : a.eval g = .func (.func gf) #[] lb) (eg : ∀ args w, (callFunc gf args).run P w = .ok (.enter gf args) w)
    (xs : List (Array Value)) (hps : ∀ x ∈ xs, x.size = ps.size) (O Z0 : Nat → Prop) (hO : ∀ k, O k → k < w.heap.size) (hz0 : ∀ k, Z0 k → k < w.heap.size)
    (hit : ∀ W, Below w.heap.size w W → ItSome P gf lb xs O Z0 W)
    (I Ix : Nat → (Nat → Prop) → World → Prop) (hI : SeenO O w.heap.size I) (hIx : SeenO O w.heap.size Ix) (h0 : I 0 Z0 w)
    (hround : ∀ (l i : Nat) (Z : Nat → Prop) (W : World) (h : i < xs.length), w.heap.size ≤ l → I i Z W → StpO O Z0 Z w W → ¬ Z l → l < W.heap.size →
      assign.wpIn (Fence.wide.inRound l) (n - 1 - 1) P (Exit.then (fun a1 W2 => Below W.heap.size W W2 ∧ ∀ W3, Below 0 W2 W3 → W3.heap.size = W2.heap.size → (∀ k, k ≠ l → W3.heap[k]? = W2.heap[k]?) →
        body.wpIn (Fence.wide.inRound l) (n - 1 - 1) P (fun e _ W4 => (e = .normal ∧ ∃ Z', I (i + 1) Z' W4 ∧ Stp Z Z' W3 W4) ∨ (e = .ret ∧ ∃ Z', Ix i Z' W4 ∧ Stp Z Z' W3 W4)) a1 W3) (fun _ _ _ => False))
        { tmps := (ps.zip xs[i]).foldl (fun t (p, v) => t.setIfInBounds p v) a.tmps, defers := [] } W)
    (hdone : ∀ (D : Nat) (Z' : Nat → Prop) (W : World), w.heap.size ≤ D → I xs.length Z' W → StpO O Z0 Z' w W → W.heap[D]? = some (.deferred (some [])) → ¬ Z' D →
      Q .normal { a with defers := { target := .collected D, args := #[] } :: a.defers } W)
    (hstop : ∀ (D i : Nat) (Z' : Nat → Prop) (W : World), w.heap.size ≤ D → Ix i Z' W → StpO O Z0 Z' w W → W.heap[D]? = some (.deferred (some [])) → ¬ Z' D →
      Code.ret.wpIn Fence.wide n P Q { a with defers := { target := .collected D, args := #[] } :: a.defers } W) :
    (Code.rangeFunc g ps assign body).wpIn Fence.wide n P Q a w := by
  refine wpIn_rangeFunc ?_
  intro fn hfn
  rw [show Fence.wide.round = none from rfl]
  obtain ⟨rec, hrec⟩ : ∃ rec : LoopState → Option Code → Loop, rec = fun st pe => { state := st, pending := pe, fn, tmps := a.tmps, params := ps, assign, body, defers := w.heap.size } := ⟨_, rfl⟩
  obtain ⟨W1, hW1⟩ : ∃ W1, (w.alloc (.deferred (some []))).alloc (.loop (rec .ready none)) = W1 := ⟨_, rfl⟩
  have hL1 : W1.heap[w.heap.size + 1]? = some (.loop (rec .ready none)) := by
    rw [← hW1]; have := World.alloc_heap_new (w.alloc (.deferred (some []))) (.loop (rec .ready none)); rwa [World.size_alloc] at this
  have hK1 : W1.heap[w.heap.size]? = some (.deferred (some [])) := by
    rw [← hW1]; exact (Below.heap_alloc _ _ _ (by simp)).trans (World.alloc_heap_new w _)
  have hs1 : W1.heap.size = w.heap.size + 2 := by rw [← hW1]; simp
  have hb1 : Below w.heap.size w W1 := by
    rw [← hW1]; exact ((Below.refl _ w).alloc (Nat.le_refl _) _).alloc (by simp) _
  have hI1 : I 0 Z0 W1 := hI 0 Z0 w W1 h0 (hb1.mono (Nat.zero_le _)) (fun k hk _ => hb1.block k hk)
  have hS1 : StpO O Z0 Z0 w W1 := (Stp.of_below hb1 hz0).o
  refine ⟨w.heap.size + 1, [{ target := .collected w.heap.size, args := #[] }], W1, { target := .fn (.func gf) lb, args := #[.func (.yield (w.heap.size + 1)) #[] #[]] }, W1, gf,
    #[.func (.yield (w.heap.size + 1)) #[] #[]] ++ lb, W1, ?_, ?_, ?_, ?_, fun h => (by simp [Fence.wide] at h), ?_⟩
  · rw [← hW1, hrec]; exact run_enterLoop_outer _ _ _ _ _
  · simp only [resolve, hg]
    simp [go_sem]
  · intro f' hf'; exact trivial
  · simp [invoke, go_sem, eg]
  · refine (hit W1 hb1 (n - 1) (w.heap.size + 1)
      (fun i Z W => I i Z W ∧ W.heap[w.heap.size + 1]? = some (.loop (rec .ready none)) ∧ W.heap[w.heap.size]? = some (.deferred (some [])) ∧ ¬ Z (w.heap.size + 1) ∧ ¬ Z w.heap.size)
      (fun i Z W => Ix i Z W ∧ W.heap[w.heap.size + 1]? = some (.loop (rec .done (some .ret))) ∧ W.heap[w.heap.size]? = some (.deferred (some [])) ∧ ¬ Z (w.heap.size + 1) ∧ ¬ Z w.heap.size)
      ?_ ?_ ⟨hI1, hL1, hK1, fun h => by have := hz0 _ h; omega, fun h => by have := hz0 _ h; omega⟩ (fun k hk => by have := hz0 k hk; omega) ?_).mono ?_
    · rintro i Z A B ⟨h1, h2, h3, h4, h5⟩ hb hk
      have hl := (Array.getElem?_eq_some_iff.1 h2).1
      exact ⟨hI i Z A B h1 hb (fun k hlt hc => hk k hlt (by rcases hc with hc | hc; exact .inl ⟨by omega, hc.2⟩; exact .inr hc)), (hk _ hl (.inl ⟨by omega, fun h => by have := hO _ h; omega⟩)).trans h2, (hk _ (by omega) (.inl ⟨by omega, fun h => by have := hO _ h; omega⟩)).trans h3, h4, h5⟩
    · rintro i Z A B ⟨h1, h2, h3, h4, h5⟩ hb hk
      have hl := (Array.getElem?_eq_some_iff.1 h2).1
      exact ⟨hIx i Z A B h1 hb (fun k hlt hc => hk k hlt (by rcases hc with hc | hc; exact .inl ⟨by omega, hc.2⟩; exact .inr hc)), (hk _ hl (.inl ⟨by omega, fun h => by have := hO _ h; omega⟩)).trans h2, (hk _ (by omega) (.inl ⟨by omega, fun h => by have := hO _ h; omega⟩)).trans h3, h4, h5⟩
    · rintro i Z W h ⟨hi, hl, hk, hn1, hn2⟩ hst
      have hlt : w.heap.size + 1 < W.heap.size := (Array.getElem?_eq_some_iff.1 hl).1
      have hy := run_yield (P := P) (args := xs[i]) hl (by rw [hrec]; exact hps _ (List.getElem_mem h))
      rw [hrec] at hy
      have hstw : StpO O Z0 Z w W := hS1.trans hst
      refine ⟨fn, _, assign, body, hy, roundIn_of_wpIn trivial (wpIn_mono (hround (w.heap.size + 1) i Z W h (by omega) hi hstw hn1 hlt) ?_)⟩
      rintro e a1 W2 hp
      cases e with
      | normal =>
        obtain ⟨hb2, hbody⟩ := hp
        have hl2 : W2.heap[w.heap.size + 1]? = some (.loop (rec .ready none)) := (hb2.block _ hlt).trans hl
        refine ⟨_, run_beginRound hl2 (by rw [hrec]), ?_⟩
        have hlt2 : w.heap.size + 1 < W2.heap.size := (Array.getElem?_eq_some_iff.1 hl2).1
        have hl3 : (W2.putObj (w.heap.size + 1) (.loop { rec .ready none with state := .busy })).heap[w.heap.size + 1]? = some (.loop { rec .ready none with state := .busy }) := World.putObj_heap_same hlt2
        refine wpIn_mono (hbody _ (below0_putObj _ _ _) (by simp) (fun k hk => World.putObj_heap_other hk)) ?_
        rintro e3 a3 W4 (⟨rfl, Z', hi4, hs4⟩ | ⟨rfl, Z', hi4, hs4⟩)
        · have hl4 := (hs4.keep (w.heap.size + 1) (by simp; omega) hn1).trans hl3
          have hlt4 : w.heap.size + 1 < W4.heap.size := (Array.getElem?_eq_some_iff.1 hl4).1
          have hn1' : ¬ Z' (w.heap.size + 1) := fun hz => by rcases hs4.grow _ hz with h1 | h1; exact hn1 h1; simp at h1; omega
          have hn2' : ¬ Z' w.heap.size := fun hz => by rcases hs4.grow _ hz with h1 | h1; exact hn2 h1; simp at h1; omega
          have her := run_endRound (P := P) none hl4
          rw [hrec] at her
          refine ⟨_, _, her, .inl ⟨rfl, Z', ⟨?_, ?_, ?_, hn1', hn2'⟩, ?_⟩⟩
          · exact hI _ _ _ _ hi4 (below0_putObj _ _ _) (fun k hk hc => World.putObj_heap_other (by rintro rfl; rcases hc with ⟨hc, _⟩ | hc; omega; exact hn1' hc))
          · rw [hrec]; exact World.putObj_heap_same hlt4
          · refine (World.putObj_heap_other (by omega)).trans ((hs4.keep w.heap.size (by simp; omega) hn2).trans ((World.putObj_heap_other (by omega)).trans ((hb2.block _ (by omega)).trans hk)))
          · refine ⟨below0_trans (hb2.mono (Nat.zero_le _)) (below0_trans (below0_putObj _ _ _) (below0_trans hs4.low (below0_putObj _ _ _))), fun k hkl hz => ?_, fun k hkz => ?_, fun k hkz => by simp; exact hs4.lt k hkz⟩
            · by_cases hkk : k = w.heap.size + 1
              · subst hkk
                rw [hl, hrec]; exact World.putObj_heap_same hlt4
              · exact (World.putObj_heap_other hkk).trans ((hs4.keep k (by simp; have := hb2.size; omega) hz).trans ((World.putObj_heap_other hkk).trans (hb2.block k hkl)))
            · rcases hs4.grow k hkz with h1 | h1
              · exact .inl h1
              · right; simp at h1; have := hb2.size; omega
        · have hl4 := (hs4.keep (w.heap.size + 1) (by simp; omega) hn1).trans hl3
          have hlt4 : w.heap.size + 1 < W4.heap.size := (Array.getElem?_eq_some_iff.1 hl4).1
          have hn1' : ¬ Z' (w.heap.size + 1) := fun hz => by rcases hs4.grow _ hz with h1 | h1; exact hn1 h1; simp at h1; omega
          have hn2' : ¬ Z' w.heap.size := fun hz => by rcases hs4.grow _ hz with h1 | h1; exact hn2 h1; simp at h1; omega
          have her := run_endRound (P := P) (some .ret) hl4
          rw [hrec] at her
          refine ⟨_, _, her, .inr ⟨rfl, Z', ⟨?_, ?_, ?_, hn1', hn2'⟩, ?_⟩⟩
          · exact hIx _ _ _ _ hi4 (below0_putObj _ _ _) (fun k hk hc => World.putObj_heap_other (by rintro rfl; rcases hc with ⟨hc, _⟩ | hc; omega; exact hn1' hc))
          · rw [hrec]; exact World.putObj_heap_same hlt4
          · refine (World.putObj_heap_other (by omega)).trans ((hs4.keep w.heap.size (by simp; omega) hn2).trans ((World.putObj_heap_other (by omega)).trans ((hb2.block _ (by omega)).trans hk)))
          · refine ⟨below0_trans (hb2.mono (Nat.zero_le _)) (below0_trans (below0_putObj _ _ _) (below0_trans hs4.low (below0_putObj _ _ _))), fun k hkl hz => ?_, fun k hkz => ?_, fun k hkz => by simp; exact hs4.lt k hkz⟩
            · have hkk : k ≠ w.heap.size + 1 := fun e => hz (.inr e)
              exact (World.putObj_heap_other hkk).trans ((hs4.keep k (by simp; have := hb2.size; omega) (fun h => hz (.inl h))).trans ((World.putObj_heap_other hkk).trans (hb2.block k hkl)))
            · rcases hs4.grow k hkz with h1 | h1
              · exact .inl (.inl h1)
              · right; simp at h1; have := hb2.size; omega
      | exit id => exact hp.elim
      | goto t => exact hp.elim
      | ret => exact hp.elim
      | panic chain => exact hp.elim
      | outgrown => exact hp.elim
    · rintro e W2 ⟨⟨v, rfl⟩, (⟨Z', ⟨hi, hl, hk, hn1, hn2⟩, hst⟩ | ⟨i, Z', ⟨hi, hl, hk, hn1, hn2⟩, hst⟩)⟩
      · have hend := run_endLoop (P := P) hl (by rw [hrec]; simp)
        rw [hrec] at hend
        refine ⟨none, _, hend, ?_⟩
        have hlt : w.heap.size + 1 < W2.heap.size := (Array.getElem?_eq_some_iff.1 hl).1
        refine hdone w.heap.size Z' _ (Nat.le_refl _) (hI _ _ _ _ hi (below0_putObj _ _ _) (fun k hkl hc => World.putObj_heap_other (by rintro rfl; rcases hc with ⟨hc, _⟩ | hc; omega; exact hn1 hc))) ?_ ((World.putObj_heap_other (by omega)).trans hk) hn2
        have h2 : StpO O Z0 Z' w W2 := hS1.trans hst
        exact ⟨below0_trans h2.low (below0_putObj _ _ _), fun k hkl hz ho => (World.putObj_heap_other (by omega)).trans (h2.keep k hkl hz ho), h2.grow, fun k hkz => by simp; exact h2.lt k hkz⟩
      · have hend := run_endLoop (P := P) hl (by rw [hrec]; simp)
        rw [hrec] at hend
        refine ⟨some .ret, _, hend, ?_⟩
        have hlt : w.heap.size + 1 < W2.heap.size := (Array.getElem?_eq_some_iff.1 hl).1
        refine hstop w.heap.size i Z' _ (Nat.le_refl _) (hIx _ _ _ _ hi (below0_putObj _ _ _) (fun k hkl hc => World.putObj_heap_other (by rintro rfl; rcases hc with ⟨hc, _⟩ | hc; omega; exact hn1 hc))) ?_ ((World.putObj_heap_other (by omega)).trans hk) hn2
        have hlow := below0_trans hS1.low hst.low
        have hs1' := hS1.size
        refine ⟨below0_trans hlow (below0_putObj _ _ _), fun k hkl hz ho => (World.putObj_heap_other (by omega)).trans ((hst.keep k (by omega) (fun h => by rcases h with h | h; exact hz h; omega) ho).trans (hS1.keep k hkl hz ho)), fun k hkz => ?_, fun k hkz => by simp; exact hst.lt k hkz⟩
        rcases hst.grow k hkz with (h1 | h1) | h1
        · exact .inl h1
        · right; omega
        · right; omega
end Go.Proofs.YtalljcjignaafaaDoor

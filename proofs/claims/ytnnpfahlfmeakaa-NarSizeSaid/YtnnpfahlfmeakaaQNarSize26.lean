import Derived.WalkLawsBesides
import Derived.WalkSmall
import Derived.Test.YtnnpfahlfmeakaaQNarSize7
import Derived.Test.YtnnpfahlfmeakaaQNarSize11
import Derived.Test.YtnnpfahlfmeakaaQNarSize12
import Derived.Test.YtnnpfahlfmeakaaQNarSize25
namespace Go.Proofs.Ytnnpfahlfmeakaa.PB
open Go.RowKit Go.Proofs.Ytnnpfahlfmeakaa Go.Proofs.YtnnpfahlfmeakaaW.PrintWords Go.Proofs.YtnnpfahlfmeakaaW.PrintLast
set_option linter.unusedVariables false
set_option linter.unusedSimpArgs false
/-- What is given up by. -/
def wrongE : List PanicEntry := [{ v := .iface 51 (.agg #[]), recovered := false }]
theorem must_true (w : World) : Calls Try.prog 28 #[.bool true] w fun e w' => e = .returned (.tuple #[]) ∧ w = w' := by
  go_enter Try.func28, Try.ntmps28
  go_wp2
  go_end0
  exact ⟨rfl, rfl⟩
theorem must_false (w : World) : Calls Try.prog 28 #[.bool false] w fun e w' => e = .panicked wrongE ∧ w = w' := by
  have hu := Try.underlying51
  have hb : (Instr.build 51 #[]).run Try.prog w = .ok (.agg #[]) w := by kernel_rfl
  go_enter Try.func28, Try.ntmps28
  go_wp2
  exact ⟨rfl, rfl, rfl⟩
/-- The reader of nodes at g, over the one of bytes at b. -/
def RW (w : World) (g b : Nat) (deep : Int) (l : List UInt8) (lost : Bool) : Prop :=
  w.heap[g]? = some (.cells #[.pointer (some ⟨b, 0, none⟩), .int .i64 deep] 57 (0, 0)) ∧ b < g ∧ RdAt w b l lost
/-- A node's variable, at q. -/
def NAt (w : World) (q : Nat) (nm : ByteArray) (kd : Int) (ex : Bool) (dt : ByteArray) (v : Value) : Prop :=
  w.heap[q]? = some (.cells #[.string nm, .int .i64 kd, .bool ex, .string dt, v] 24 (0, 0))
theorem RW.keep {w w' : World} {g b : Nat} {deep : Int} {l : List UInt8} {lost : Bool} {S : Nat → Prop} (h : RW w g b deep l lost) (hk : Kept w w' S) (hS : ∀ k, k ≤ g → ¬ S k) : RW w' g b deep l lost := by
  obtain ⟨h1, h2, h3⟩ := h
  have hlt : g < w.heap.size := blk_lt h1
  exact ⟨(hk.2 g hlt (hS g (Nat.le_refl _))).trans h1, h2, h3.keep hk.1 (fun i hi => hk.2 i (by omega) (hS i (by omega)))⟩
theorem RW.grown {w w' : World} {g b : Nat} {deep : Int} {l l' : List UInt8} {lost lost' : Bool} (h : RW w g b deep l lost) (hg : w.grownBy w' (some b)) (hr : RdAt w' b l' lost') : RW w' g b deep l' lost' := by
  obtain ⟨h1, h2, h3⟩ := h
  exact ⟨(hg.block g (blk_lt h1) (by intro e; injection e with e; omega)).trans h1, h2, hr⟩
theorem NAt.grown {w w' : World} {q b : Nat} {nm : ByteArray} {kd : Int} {ex : Bool} {dt : ByteArray} {v : Value} (h : NAt w q nm kd ex dt v) (hg : w.grownBy w' (some b)) (hne : q ≠ b) : NAt w' q nm kd ex dt v :=
  (hg.block q (blk_lt h) (by intro e; injection e with e; omega)).trans h
set_option maxRecDepth 100000 in
theorem rlink_calls (g b q : Nat) (deep : Int) (l : List UInt8) (lost : Bool) (nm : ByteArray) (kd : Int) (ex : Bool) (dt : ByteArray) (v : Value) (w0 w : World) (h : RW w g b deep l lost) (hq : NAt w q nm kd ex dt v) (hgq : g < q) (hb : w0.heap.size ≤ b) (hB : Below w0.heap.size w0 w) :
    Calls Try.prog 52 #[.pointer (some ⟨g, 0, none⟩), .pointer (some ⟨q, 0, none⟩)] w fun e w' =>
      Below w0.heap.size w0 w' ∧ Kept w w' (fun k => k = b ∨ k = q) ∧ e = .returned (.tuple #[]) ∧ RW w' g b deep (after lost (textR l)).1 (after lost (textR l)).2 ∧ NAt w' q nm kd ex (str (textOf (textR l))) v := by
  have hu := Try.underlying24
  have hu2 := Try.underlying57
  have H := Aside0.mk h
  have HQ := Aside0.mk hq
  have HB := Aside0.mk hB
  have HT := Aside0.mk (text_any b l lost w h.2.2)
  have HL := Aside0.mk (And.intro hgq (And.intro h.2.1 hb))
  have c0 : w.cell? ⟨g, 0, none⟩ = some (.pointer (some ⟨b, 0, none⟩)) := (blk_cell h.1 0).trans rfl
  clear h hq hB hgq hb
  go_enter Try.func52, Try.ntmps52
  go_wp2_with fail
  refine HT.out.mono ?_
  rintro e w1 ⟨rfl, hr, hg⟩
  have H1 := Aside0.mk (H.out.grown hg hr)
  have Q1 := Aside0.mk (HQ.out.grown hg (by have := HL.out; omega))
  have B1 := Aside0.mk (HB.out.grown hg HB.out.size (fun k hk => by injection hk with hk; rw [← hk]; exact HL.out.2.2))
  have K1 := Aside0.mk (Kept.of_grown (S := fun k => k = b ∨ k = q) hg (Kept.refl w _) (fun k hk => .inl (.inl (by injection hk with hk; exact hk.symm))))
  clear hr hg HT
  have hfz : w1.frozen? ⟨q, 3, none⟩ = false := blk_nofreeze Q1.out 3
  have c3 : w1.cell? ⟨q, 3, none⟩ = some (.string dt) := (blk_cell Q1.out 3).trans rfl
  go_wp2
  go_end0
  have hqb : w0.heap.size ≤ q := by have := HL.out; omega
  have KS := (Kept.refl w1 (fun k => k = q)).setCell (p := ⟨q, 3, none⟩) (.inl rfl) (.string (str (textOf (textR l))))
  refine ⟨B1.out.setCell hqb _, K1.out.setCell (.inl (.inr rfl)) _, rfl, H1.out.keep KS (fun k hk e => by have := HL.out; omega), (blk_store (l := [_, _, _, _, _]) Q1.out 3 _).trans rfl⟩
set_option maxRecDepth 100000 in
theorem rfile_calls (g b q : Nat) (deep : Int) (l : List UInt8) (lost : Bool) (nm : ByteArray) (kd : Int) (ex : Bool) (dt : ByteArray) (v : Value) (w0 w : World) (h : RW w g b deep l lost) (hq : NAt w q nm kd ex dt v) (hgq : g < q) (hb : w0.heap.size ≤ b) (hB : Below w0.heap.size w0 w) :
    Calls Try.prog 51 #[.pointer (some ⟨g, 0, none⟩), .pointer (some ⟨q, 0, none⟩)] w fun e w' =>
      Below w0.heap.size w0 w' ∧ (if numOf (numR l) ≤ 1 then Kept w w' (fun k => k = b ∨ k = q) ∧ e = .returned (.tuple #[]) ∧ RW w' g b deep (after (after lost (numR l)).2 (textR (after lost (numR l)).1)).1 (after (after lost (numR l)).2 (textR (after lost (numR l)).1)).2 ∧ NAt w' q nm kd (numOf (numR l) == 1) (str (textOf (textR (after lost (numR l)).1))) v else e = .panicked wrongE) := by
  have hu := Try.underlying24
  have hu2 := Try.underlying57
  have H := Aside0.mk h
  have HQ := Aside0.mk hq
  have HB := Aside0.mk hB
  have HN := Aside0.mk (num_any b l lost w h.2.2)
  have HL := Aside0.mk (And.intro hgq (And.intro h.2.1 hb))
  have c0 : w.cell? ⟨g, 0, none⟩ = some (.pointer (some ⟨b, 0, none⟩)) := (blk_cell h.1 0).trans rfl
  clear h hq hB hgq hb
  generalize numOf (numR l) = n at *
  generalize (after lost (numR l)).1 = l1 at *
  generalize (after lost (numR l)).2 = lost1 at *
  by_cases hn : n ≤ 1
  · simp only [if_pos hn]
    have hni : (n : Int) ≤ 1 := by omega
    have hdn : decide ((n : Int) ≤ 1) = true := decide_eq_true hni
    obtain ⟨bn, hbn⟩ : ∃ bn, (n == 1) = bn := ⟨_, rfl⟩
    have hnb : ((n : Int) == 1) = bn := by
      rw [← hbn]
      by_cases h1 : n = 1
      · subst h1; rfl
      · rw [beq_eq_false_iff_ne.mpr h1]; exact beq_eq_false_iff_ne.mpr (by omega)
    rw [hbn]
    clear hbn
    go_enter Try.func51, Try.ntmps51
    go_wp2_with fail
    refine HN.out.mono ?_
    rintro e w1 ⟨rfl, hr, hg⟩
    have H1 := Aside0.mk (H.out.grown hg hr)
    have Q1 := Aside0.mk (HQ.out.grown hg (by have := HL.out; omega))
    have B1 := Aside0.mk (HB.out.grown hg HB.out.size (fun k hk => by injection hk with hk; rw [← hk]; exact HL.out.2.2))
    have K1 := Aside0.mk (Kept.of_grown (S := fun k => k = b ∨ k = q) hg (Kept.refl w _) (fun k hk => .inl (.inl (by injection hk with hk; exact hk.symm))))
    clear hr hg HN
    have HT := Aside0.mk (text_any b l1 lost1 w1 H1.out.2.2)
    have c1 : w1.cell? ⟨g, 0, none⟩ = some (.pointer (some ⟨b, 0, none⟩)) := (blk_cell H1.out.1 0).trans rfl
    have HMT := Aside0.mk (must_true w1)
    go_wp2_with (first | (go_at_call 28; refine HMT.out.mono ?_; rintro e _ ⟨rfl, rfl⟩) | fail)
    refine HT.out.mono ?_
    rintro e w2 ⟨rfl, hr, hg⟩
    have H2 := Aside0.mk (H1.out.grown hg hr)
    have Q2 := Aside0.mk (Q1.out.grown hg (by have := HL.out; omega))
    have B2 := Aside0.mk (B1.out.grown hg B1.out.size (fun k hk => by injection hk with hk; rw [← hk]; exact HL.out.2.2))
    have K2 := Aside0.mk (Kept.of_grown (S := fun k => k = b ∨ k = q) hg K1.out (fun k hk => .inl (.inl (by injection hk with hk; exact hk.symm))))
    clear hr hg HT
    have hfz : w2.frozen? ⟨q, 2, none⟩ = false := blk_nofreeze Q2.out 2
    have hfz3 : w2.frozen? ⟨q, 3, none⟩ = false := blk_nofreeze Q2.out 3
    have c2 : w2.cell? ⟨q, 2, none⟩ = some (.bool ex) := (blk_cell Q2.out 2).trans rfl
    have c3 : w2.cell? ⟨q, 3, none⟩ = some (.string dt) := (blk_cell Q2.out 3).trans rfl
    go_wp2
    go_end0
    have hqb : w0.heap.size ≤ q := by have := HL.out; omega
    have KS := ((Kept.refl w2 (fun k => k = q)).setCell (p := ⟨q, 2, none⟩) (.inl rfl) (.bool bn)).setCell (p := ⟨q, 3, none⟩) (.inl rfl) (.string (str (textOf (textR l1))))
    exact ⟨(B2.out.setCell hqb _).setCell hqb _, (K2.out.setCell (.inl (.inr rfl)) _).setCell (.inl (.inr rfl)) _, rfl, H2.out.keep KS (fun k hk e => by have := HL.out; omega), (blk_store (l := [_, _, _, _, _]) ((blk_store (l := [_, _, _, _, _]) Q2.out 2 _).trans rfl) 3 _).trans rfl⟩
  · simp only [if_neg hn]
    have hdn : decide ((n : Int) ≤ 1) = false := decide_eq_false (by omega)
    have hni : (1 : Int) < (n : Int) := by omega
    go_enter Try.func51, Try.ntmps51
    go_wp2_with fail
    refine HN.out.mono ?_
    rintro e w1 ⟨rfl, hr, hg⟩
    have H1 := Aside0.mk (H.out.grown hg hr)
    have Q1 := Aside0.mk (HQ.out.grown hg (by have := HL.out; omega))
    have B1 := Aside0.mk (HB.out.grown hg HB.out.size (fun k hk => by injection hk with hk; rw [← hk]; exact HL.out.2.2))
    have K1 := Aside0.mk (Kept.of_grown (S := fun k => k = b ∨ k = q) hg (Kept.refl w _) (fun k hk => .inl (.inl (by injection hk with hk; exact hk.symm))))
    clear hr hg HN
    have HMF := Aside0.mk (must_false w1)
    go_wp2_with (go_at_call 28; refine HMF.out.mono ?_; rintro e _ ⟨rfl, rfl⟩)
    exact ⟨rfl, B1.out, rfl⟩
end Go.Proofs.Ytnnpfahlfmeakaa.PB
namespace Go.Proofs.Ytnnpfahlfmeakaa.PB
open Go.RowKit Go.Proofs.Ytnnpfahlfmeakaa Go.Proofs.YtnnpfahlfmeakaaW.PrintWords Go.Proofs.YtnnpfahlfmeakaaW.PrintLast
set_option linter.unusedVariables false
set_option linter.unusedSimpArgs false
theorem blk_below' {B : Nat} {w w' : World} {g : Nat} {o : Obj} (h : Below B w w') (hb : w.heap[g]? = some o) (hg : g < B) : w'.heap[g]? = some o := (h.block g hg).trans hb
theorem own_open {w : World} {base : Nat} {e : TypeId} {size n : Nat} {v : Value} {xs : List Value} (h : w.ownsRow base e size v (n + 1) xs) : ∃ g cap cur, v = .slice (some ⟨g, 0, none⟩) (n + 1) cap ∧ base ≤ g ∧ w.heap[g]? = some (.cells cur e (0, 0)) ∧ n + 1 ≤ cap ∧ cur.size = cap * size := by
  rcases h.2 with ⟨_, h⟩ | ⟨g, cap, cur, h1, h2, h3, h4, _, h5, _⟩
  · cases h
  · exact ⟨g, cap, cur, h1, h2, h3, h4, h5⟩
theorem own_cell {w : World} {g T i : Nat} {cur : Array Value} (h : w.heap[g]? = some (.cells cur T (0, 0))) (hi : i < cur.size) : ∃ u, w.cell? ⟨g, i, none⟩ = some u :=
  ⟨cur[i], (blk_cell h i).trans (Array.getElem?_eq_getElem hi)⟩
theorem alloc_size (w : World) (o : Obj) : (w.alloc o).heap.size = w.heap.size + 1 := Array.size_push _
theorem NAt.below {w w' : World} {q : Nat} {nm : ByteArray} {kd : Int} {ex : Bool} {dt : ByteArray} {v : Value} (h : NAt w q nm kd ex dt v) (hb : Below w.heap.size w w') : NAt w' q nm kd ex dt v := blk_below h hb
/-- The world behind the two stores: what of it is told. -/
structure Two (w1 W6 : World) (q g1 : Nat) : Prop where
  os : W6.os = w1.os
  tape : W6.tape = w1.tape
  output : W6.output = w1.output
  size : W6.heap.size = w1.heap.size
  other : ∀ i, i ≠ q → i ≠ g1 → W6.heap[i]? = w1.heap[i]?
theorem Two.refl (w : World) (q g1 : Nat) : Two w w q g1 := ⟨rfl, rfl, rfl, rfl, fun _ _ _ => rfl⟩
theorem Two.set {w1 W : World} {q g1 b : Nat} (h : Two w1 W q g1) (hb : b = q ∨ b = g1) (j : Nat) (u : Value) : Two w1 (W.setCell ⟨b, j, none⟩ u) q g1 :=
  ⟨h.os, h.tape, h.output, by simpa [World.setCell] using h.size, fun i h1 h2 => (Below.heap_setCell W ⟨b, j, none⟩ u i (by show i ≠ b; rcases hb with rfl | rfl <;> assumption)).trans (h.other i h1 h2)⟩
theorem own_set {W : World} {base g n cap size i : Nat} {e : TypeId} {xs : List Value} (h : W.ownsRow base e size (.slice (some ⟨g, 0, none⟩) n cap) n xs) (hi : i < n * size) (u : Value) : (W.setCell ⟨g, i, none⟩ u).ownsRow base e size (.slice (some ⟨g, 0, none⟩) n cap) n (xs.set i u) := by
  obtain ⟨h1, h2⟩ := h
  refine ⟨by rw [List.length_set]; exact h1, ?_⟩
  rcases h2 with ⟨h2, _⟩ | ⟨g', cap', cur, he, hg, hh, hc, hm, hs, ht⟩
  · cases h2
  · injection he with e1 e2 e3
    injection e1 with e1
    injection e1 with e1
    subst e1; subst e3
    refine .inr ⟨g, cap, (cur.toList.set i u).toArray, rfl, hg, blk_store (l := cur.toList) (by simpa using hh) i u, hc, hm, by simpa using hs, ?_⟩
    rw [List.take_set, ht]
theorem own_other {W : World} {base g n cap size b j : Nat} {e : TypeId} {xs : List Value} (h : W.ownsRow base e size (.slice (some ⟨g, 0, none⟩) n cap) n xs) (hne : g ≠ b) (u : Value) : (W.setCell ⟨b, j, none⟩ u).ownsRow base e size (.slice (some ⟨g, 0, none⟩) n cap) n xs :=
  own_setCell h (p := ⟨b, j, none⟩) (by simp [Value.ownBlock]; exact fun e => hne e.symm) u
theorem set5 (l : List Value) (n : Nat) (hl : l.length = n * 5) (z0 z1 z2 z3 z4 a0 a1 a2 a3 a4 : Value) :
    (((((l ++ [z0, z1, z2, z3, z4]).set (n * 5) a0).set (n * 5 + 1) a1).set (n * 5 + 2) a2).set (n * 5 + 3) a3).set (n * 5 + 4) a4 = l ++ [a0, a1, a2, a3, a4] := by
  rw [← hl]
  simp [List.set_append]
theorem dir_fin {g b q x N B g1 c1 cv : Nat} {Av : Option Addr} {d : Int} {l3 : List UInt8} {lost1 : Bool} {nm dt tx t3 : ByteArray} {kd t1 : Int} {ex t2 : Bool} {vk : Value} {t4 done : List Tree} {inner : List Value} {w0 w W5 w1 W6 : World}
    (hgq : g < q) (hbg : b < g) (hb0 : w0.heap.size ≤ b) (hN : B ≤ N) (hBq : q + 1 ≤ B) (hBw : w.heap.size ≤ B) (H5 : RW W5 g b d l3 lost1) (Q5 : NAt W5 q nm kd ex dt (.slice Av done.length cv)) (B5 : Below w0.heap.size w0 W5) (K5 : Kept w W5 (fun k => k = b ∨ k = g ∨ k = q))
    (V6 : Kd.R k24 24 W5 B (fun k => k < N) (.slice Av done.length cv) done) (V7 : Kd.R k24 24 W5 N (fun k => N ≤ k ∧ k < x) vk t4)
    (hrep : Reps (k24.M W5 B (fun k => k < N ∧ some k ≠ (Value.slice Av done.length cv).ownBlock)) 5 done inner)
    (HG1 : W5.drew.grownBy w1 (Value.slice Av done.length cv).ownBlock) (hat : (Value.slice (some ⟨g1, 0, none⟩) (done.length + 1) c1).ownBlock = (Value.slice Av done.length cv).ownBlock ∨ ∃ k, (Value.slice (some ⟨g1, 0, none⟩) (done.length + 1) c1).ownBlock = some k ∧ W5.drew.heap.size ≤ k)
    (hq6 : NAt W6 q nm kd ex dt (.slice (some ⟨g1, 0, none⟩) (done.length + 1) c1)) (hown : W6.ownsRow B 24 5 (.slice (some ⟨g1, 0, none⟩) (done.length + 1) c1) (done.length + 1) (inner ++ [.string tx, .int .i64 t1, .bool t2, .string t3, vk])) (HT : Two w1 W6 q g1) :
    RW W6 g b d l3 lost1 ∧ Kd.R k24 24 W6 B (fun _ => True) (.slice (some ⟨g1, 0, none⟩) (done.length + 1) c1) (done ++ [⟨tx, t1, t2, t3, t4⟩]) ∧ Below w0.heap.size w0 W6 ∧ Kept w W6 (fun k => k = b ∨ k = g ∨ k = q) := by
  have hg1 : B ≤ g1 := own_base hown g1 rfl
  have hqs : q < W5.heap.size := blk_lt Q5
  have hne : ∀ k, k < W5.heap.size → some k ≠ (Value.slice Av done.length cv).ownBlock → k ≠ g1 := by
    intro k hk h1 e
    subst e
    rcases hat with h | ⟨m, h2, h3⟩
    · exact h1 (by rw [← h]; rfl)
    · have : k = m := by simpa [Value.ownBlock] using h2
      have h4 : W5.heap.size ≤ m := h3
      omega
  have hlow : ∀ k, k ≤ q → some k ≠ (Value.slice Av done.length cv).ownBlock := by
    intro k hk e
    have := (Kd.R_bound V6).1 k e.symm
    omega
  have hkeep : ∀ k, k < W5.heap.size → k ≠ q → some k ≠ (Value.slice Av done.length cv).ownBlock → W6.heap[k]? = W5.heap[k]? := fun k h1 h2 h3 => (HT.other k h2 (hne k h1 h3)).trans (HG1.block k h1 h3)
  have hsz : W5.heap.size ≤ W6.heap.size := by rw [HT.size]; exact HG1.size
  have hK : Kept W5 W6 (fun k => k = q ∨ some k = (Value.slice Av done.length cv).ownBlock) := ⟨hsz, fun i hi hn => hkeep i hi (fun e => hn (.inl e)) (fun e => hn (.inr e))⟩
  refine ⟨H5.keep hK (fun k hk hs => ?_), ?_, ?_, ?_⟩
  · rcases hs with hs | hs
    · omega
    · exact hlow k (by omega) hs
  · -- the row
    have hq5 := (blk_store (l := [_, _, _, _, _]) Q5 4 (Value.slice (some ⟨g1, 0, none⟩) (done.length + 1) c1))
    have far : ∀ k, q + 1 ≤ k → (W5.setCell ⟨q, 4, none⟩ (Value.slice (some ⟨g1, 0, none⟩) (done.length + 1) c1)).heap[k]? = W5.heap[k]? := fun k hk => Below.heap_setCell W5 ⟨q, 4, none⟩ _ k (by show k ≠ q; omega)
    have hr2 : Reps (k24.M (W5.setCell ⟨q, 4, none⟩ (Value.slice (some ⟨g1, 0, none⟩) (done.length + 1) c1)) B (fun k => True ∧ some k ≠ (Value.slice Av done.length cv).ownBlock)) k24.sz done inner :=
      hrep.imp_ (fun p c hp => k24.M_mono (fun k hk => ⟨trivial, hk.1.2⟩) (k24.M_move (fun k hk => far k (Nat.le_trans hBq hk.2.1)) (k24.M_bound hp)))
    have hp2 := k24_mkM (W5.setCell ⟨q, 4, none⟩ (Value.slice (some ⟨g1, 0, none⟩) (done.length + 1) c1)) B (fun k => N ≤ k ∧ k < x) ⟨tx, t1, t2, t3, t4⟩ (v4 := vk) (Kd.R_lower (Kd.R_step V7 (fun k hk _ => far k (by omega))) hN)
    refine Kd.R_appended (W := W5.setCell ⟨q, 4, none⟩ (Value.slice (some ⟨g1, 0, none⟩) (done.length + 1) c1)) (v := .slice Av done.length cv) (fun _ _ => trivial) hr2 hp2 (fun k hk => ⟨trivial, fun e => ?_⟩) (fun _ _ => trivial) hown ?_ ?_
    · have := V6.1 k e.symm
      omega
    · refine ⟨HT.os.trans HG1.os, HT.tape.trans HG1.tape, HT.output.trans HG1.output, by simpa [World.setCell] using hsz, fun k hk hn => ?_⟩
      have hk' : k < W5.heap.size := by simpa [World.setCell] using hk
      by_cases hkq : k = q
      · subst hkq
        exact (show W6.heap[k]? = _ from hq6).trans hq5.symm
      · exact (hkeep k hk' hkq hn).trans (Below.heap_setCell W5 ⟨q, 4, none⟩ _ k hkq).symm
    · rcases hat with h | ⟨m, h1, h2⟩
      · exact .inl h
      · exact .inr ⟨m, h1, by rw [World.size_setCell]; exact h2⟩
  · refine B5.trans ⟨HT.os.trans HG1.os, HT.tape.trans HG1.tape, HT.output.trans HG1.output, hsz, fun k hk => ?_⟩
    exact hkeep k (Nat.lt_of_lt_of_le hk B5.size) (by omega) (hlow k (by omega))
  · refine K5.then_ hK (fun k hk => ?_)
    rcases hk with hk | hk
    · exact .inl (.inr (.inr hk))
    · have h1 := (Kd.R_bound V6).1 k hk.symm
      exact .inr (Nat.le_trans hBw h1.2.1)
/-- What a node's reading leaves. -/
def NodePost (g b : Nat) (deep : Int) (lost : Bool) (w0 w : World) (r : Option (Tree × List UInt8)) (e : Ending) (w' : World) : Prop :=
  Below w0.heap.size w0 w' ∧ match r with
    | some (t, l') => ∃ v, e = .returned (.agg #[.string t.f0, .int .i64 t.f1, .bool t.f2, .string t.f3, v]) ∧ Kd.R k24 24 w' w.heap.size (fun _ => True) v t.f4 ∧ RW w' g b deep l' lost ∧ Kept w w' (fun k => k = b ∨ k = g)
    | none => e = .panicked wrongE
def NodeC (m : Nat) : Prop := ∀ (g b : Nat) (l : List UInt8) (lost : Bool) (w0 w : World), RW w g b (13 - (m : Int)) l lost → (lost = true → l = []) → w0.heap.size ≤ b → Below w0.heap.size w0 w →
    Calls Try.prog 30 #[.pointer (some ⟨g, 0, none⟩)] w (NodePost g b (13 - (m : Int)) lost w0 w (nodeR m l))
/-- What a directory's reading leaves. -/
def DirPost (g b q : Nat) (deep : Int) (lost : Bool) (nm : ByteArray) (kd : Int) (ex : Bool) (dt : ByteArray) (w0 w : World) (r : Option (List Tree × List UInt8)) (e : Ending) (w' : World) : Prop :=
  Below w0.heap.size w0 w' ∧ match r with
    | some (ks, l') => ∃ v, e = .returned (.tuple #[]) ∧ Kd.R k24 24 w' w.heap.size (fun _ => True) v ks ∧ RW w' g b deep l' lost ∧ NAt w' q nm kd ex dt v ∧ Kept w w' (fun k => k = b ∨ k = g ∨ k = q)
    | none => e = .panicked wrongE ∨ (e = .returned (.tuple #[]) ∧ RW w' g b deep [] true)
theorem dir_enda {g b q x N B g1 c1 cv : Nat} {Av : Option Addr} {d : Int} {l3 : List UInt8} {lost1 : Bool} {nm dt tx t3 : ByteArray} {kd t1 : Int} {ex t2 : Bool} {vk : Value} {t4 done : List Tree} {inner : List Value} {w0 w W5 w1 : World}
    (hgq : g < q) (hbg : b < g) (hb0 : w0.heap.size ≤ b) (hN : B ≤ N) (hBq : q + 1 ≤ B) (hBw : w.heap.size ≤ B) (H5 : RW W5 g b d l3 lost1) (Q5 : NAt W5 q nm kd ex dt (.slice Av done.length cv)) (B5 : Below w0.heap.size w0 W5) (K5 : Kept w W5 (fun k => k = b ∨ k = g ∨ k = q))
    (V6 : Kd.R k24 24 W5 B (fun k => k < N) (.slice Av done.length cv) done) (V7 : Kd.R k24 24 W5 N (fun k => N ≤ k ∧ k < x) vk t4)
    (hrep : Reps (k24.M W5 B (fun k => k < N ∧ some k ≠ (Value.slice Av done.length cv).ownBlock)) 5 done inner)
    (HG1 : W5.drew.grownBy w1 (Value.slice Av done.length cv).ownBlock) (hat : (Value.slice (some ⟨g1, 0, none⟩) (done.length + 1) c1).ownBlock = (Value.slice Av done.length cv).ownBlock ∨ ∃ k, (Value.slice (some ⟨g1, 0, none⟩) (done.length + 1) c1).ownBlock = some k ∧ W5.drew.heap.size ≤ k)
    (hq1 : NAt w1 q nm kd ex dt (.slice Av done.length cv)) (hown1 : w1.ownsRow B 24 5 (.slice (some ⟨g1, 0, none⟩) (done.length + 1) c1) (done.length + 1) (inner ++ [.string ⟨#[]⟩, .int .i64 0, .bool false, .string ⟨#[]⟩, .slice none 0 0])) :
    RW ((((((w1.setCell ⟨q, 4, none⟩ (.slice (some ⟨g1, 0, none⟩) (done.length + 1) c1)).setCell ⟨g1, done.length * 5, none⟩ (.string tx)).setCell ⟨g1, done.length * 5 + 1, none⟩ (.int .i64 t1)).setCell ⟨g1, done.length * 5 + 2, none⟩ (.bool t2)).setCell ⟨g1, done.length * 5 + 3, none⟩ (.string t3)).setCell ⟨g1, done.length * 5 + 4, none⟩ vk) g b d l3 lost1 ∧ NAt ((((((w1.setCell ⟨q, 4, none⟩ (.slice (some ⟨g1, 0, none⟩) (done.length + 1) c1)).setCell ⟨g1, done.length * 5, none⟩ (.string tx)).setCell ⟨g1, done.length * 5 + 1, none⟩ (.int .i64 t1)).setCell ⟨g1, done.length * 5 + 2, none⟩ (.bool t2)).setCell ⟨g1, done.length * 5 + 3, none⟩ (.string t3)).setCell ⟨g1, done.length * 5 + 4, none⟩ vk) q nm kd ex dt (.slice (some ⟨g1, 0, none⟩) (done.length + 1) c1) ∧ Kd.R k24 24 ((((((w1.setCell ⟨q, 4, none⟩ (.slice (some ⟨g1, 0, none⟩) (done.length + 1) c1)).setCell ⟨g1, done.length * 5, none⟩ (.string tx)).setCell ⟨g1, done.length * 5 + 1, none⟩ (.int .i64 t1)).setCell ⟨g1, done.length * 5 + 2, none⟩ (.bool t2)).setCell ⟨g1, done.length * 5 + 3, none⟩ (.string t3)).setCell ⟨g1, done.length * 5 + 4, none⟩ vk) B (fun _ => True) (.slice (some ⟨g1, 0, none⟩) (done.length + 1) c1) (done ++ [⟨tx, t1, t2, t3, t4⟩]) ∧ Below w0.heap.size w0 ((((((w1.setCell ⟨q, 4, none⟩ (.slice (some ⟨g1, 0, none⟩) (done.length + 1) c1)).setCell ⟨g1, done.length * 5, none⟩ (.string tx)).setCell ⟨g1, done.length * 5 + 1, none⟩ (.int .i64 t1)).setCell ⟨g1, done.length * 5 + 2, none⟩ (.bool t2)).setCell ⟨g1, done.length * 5 + 3, none⟩ (.string t3)).setCell ⟨g1, done.length * 5 + 4, none⟩ vk) ∧ Kept w ((((((w1.setCell ⟨q, 4, none⟩ (.slice (some ⟨g1, 0, none⟩) (done.length + 1) c1)).setCell ⟨g1, done.length * 5, none⟩ (.string tx)).setCell ⟨g1, done.length * 5 + 1, none⟩ (.int .i64 t1)).setCell ⟨g1, done.length * 5 + 2, none⟩ (.bool t2)).setCell ⟨g1, done.length * 5 + 3, none⟩ (.string t3)).setCell ⟨g1, done.length * 5 + 4, none⟩ vk) (fun k => k = b ∨ k = g ∨ k = q) := by
  have hg1 : B ≤ g1 := own_base hown1 g1 rfl
  have hne : g1 ≠ q := by omega
  have hil : inner.length = done.length * 5 := hrep.1
  have hq6 : NAt ((((((w1.setCell ⟨q, 4, none⟩ (.slice (some ⟨g1, 0, none⟩) (done.length + 1) c1)).setCell ⟨g1, done.length * 5, none⟩ (.string tx)).setCell ⟨g1, done.length * 5 + 1, none⟩ (.int .i64 t1)).setCell ⟨g1, done.length * 5 + 2, none⟩ (.bool t2)).setCell ⟨g1, done.length * 5 + 3, none⟩ (.string t3)).setCell ⟨g1, done.length * 5 + 4, none⟩ vk) q nm kd ex dt (.slice (some ⟨g1, 0, none⟩) (done.length + 1) c1) := ((Below.heap_setCell _ ⟨g1, done.length * 5 + 4, none⟩ _ q (by show q ≠ g1; exact Ne.symm hne)).trans ((Below.heap_setCell _ ⟨g1, done.length * 5 + 3, none⟩ _ q (by show q ≠ g1; exact Ne.symm hne)).trans ((Below.heap_setCell _ ⟨g1, done.length * 5 + 2, none⟩ _ q (by show q ≠ g1; exact Ne.symm hne)).trans ((Below.heap_setCell _ ⟨g1, done.length * 5 + 1, none⟩ _ q (by show q ≠ g1; exact Ne.symm hne)).trans ((Below.heap_setCell _ ⟨g1, done.length * 5, none⟩ _ q (by show q ≠ g1; exact Ne.symm hne)).trans ((blk_store (l := [_, _, _, _, _]) hq1 4 _).trans rfl))))))
  have ho := (own_set (i := done.length * 5 + 4) (own_set (i := done.length * 5 + 3) (own_set (i := done.length * 5 + 2) (own_set (i := done.length * 5 + 1) (own_set (i := done.length * 5) (own_other (j := 4) hown1 hne (.slice (some ⟨g1, 0, none⟩) (done.length + 1) c1)) (by omega) (.string tx)) (by omega) (.int .i64 t1)) (by omega) (.bool t2)) (by omega) (.string t3)) (by omega) vk)
  rw [set5 inner done.length hil] at ho
  have HT := (((((((Two.refl w1 q g1).set (.inl rfl) 4 (.slice (some ⟨g1, 0, none⟩) (done.length + 1) c1)).set (.inr rfl) (done.length * 5) (.string tx)).set (.inr rfl) (done.length * 5 + 1) (.int .i64 t1)).set (.inr rfl) (done.length * 5 + 2) (.bool t2)).set (.inr rfl) (done.length * 5 + 3) (.string t3)).set (.inr rfl) (done.length * 5 + 4) vk)
  obtain ⟨r1, r2, r3, r4⟩ := dir_fin hgq hbg hb0 hN hBq hBw H5 Q5 B5 K5 V6 V7 hrep HG1 hat hq6 ho HT
  exact ⟨r1, hq6, r2, r3, r4⟩
theorem dir_endb {g b q x N B g1 c1 cv : Nat} {Av : Option Addr} {d : Int} {l3 : List UInt8} {lost1 : Bool} {nm dt tx t3 : ByteArray} {kd t1 : Int} {ex t2 : Bool} {vk : Value} {t4 done : List Tree} {inner : List Value} {w0 w W5 w1 : World}
    (hgq : g < q) (hbg : b < g) (hb0 : w0.heap.size ≤ b) (hN : B ≤ N) (hBq : q + 1 ≤ B) (hBw : w.heap.size ≤ B) (H5 : RW W5 g b d l3 lost1) (Q5 : NAt W5 q nm kd ex dt (.slice Av done.length cv)) (B5 : Below w0.heap.size w0 W5) (K5 : Kept w W5 (fun k => k = b ∨ k = g ∨ k = q))
    (V6 : Kd.R k24 24 W5 B (fun k => k < N) (.slice Av done.length cv) done) (V7 : Kd.R k24 24 W5 N (fun k => N ≤ k ∧ k < x) vk t4)
    (hrep : Reps (k24.M W5 B (fun k => k < N ∧ some k ≠ (Value.slice Av done.length cv).ownBlock)) 5 done inner)
    (HG1 : W5.drew.grownBy w1 (Value.slice Av done.length cv).ownBlock) (hat : (Value.slice (some ⟨g1, 0, none⟩) (done.length + 1) c1).ownBlock = (Value.slice Av done.length cv).ownBlock ∨ ∃ k, (Value.slice (some ⟨g1, 0, none⟩) (done.length + 1) c1).ownBlock = some k ∧ W5.drew.heap.size ≤ k)
    (hq1 : NAt w1 q nm kd ex dt (.slice Av done.length cv)) (hown1 : w1.ownsRow B 24 5 (.slice (some ⟨g1, 0, none⟩) (done.length + 1) c1) (done.length + 1) (inner ++ [.string ⟨#[]⟩, .int .i64 0, .bool false, .string ⟨#[]⟩, .slice none 0 0])) :
    RW ((((((w1.setCell ⟨g1, done.length * 5, none⟩ (.string tx)).setCell ⟨g1, done.length * 5 + 1, none⟩ (.int .i64 t1)).setCell ⟨g1, done.length * 5 + 2, none⟩ (.bool t2)).setCell ⟨g1, done.length * 5 + 3, none⟩ (.string t3)).setCell ⟨g1, done.length * 5 + 4, none⟩ vk).setCell ⟨q, 4, none⟩ (.slice (some ⟨g1, 0, none⟩) (done.length + 1) c1)) g b d l3 lost1 ∧ NAt ((((((w1.setCell ⟨g1, done.length * 5, none⟩ (.string tx)).setCell ⟨g1, done.length * 5 + 1, none⟩ (.int .i64 t1)).setCell ⟨g1, done.length * 5 + 2, none⟩ (.bool t2)).setCell ⟨g1, done.length * 5 + 3, none⟩ (.string t3)).setCell ⟨g1, done.length * 5 + 4, none⟩ vk).setCell ⟨q, 4, none⟩ (.slice (some ⟨g1, 0, none⟩) (done.length + 1) c1)) q nm kd ex dt (.slice (some ⟨g1, 0, none⟩) (done.length + 1) c1) ∧ Kd.R k24 24 ((((((w1.setCell ⟨g1, done.length * 5, none⟩ (.string tx)).setCell ⟨g1, done.length * 5 + 1, none⟩ (.int .i64 t1)).setCell ⟨g1, done.length * 5 + 2, none⟩ (.bool t2)).setCell ⟨g1, done.length * 5 + 3, none⟩ (.string t3)).setCell ⟨g1, done.length * 5 + 4, none⟩ vk).setCell ⟨q, 4, none⟩ (.slice (some ⟨g1, 0, none⟩) (done.length + 1) c1)) B (fun _ => True) (.slice (some ⟨g1, 0, none⟩) (done.length + 1) c1) (done ++ [⟨tx, t1, t2, t3, t4⟩]) ∧ Below w0.heap.size w0 ((((((w1.setCell ⟨g1, done.length * 5, none⟩ (.string tx)).setCell ⟨g1, done.length * 5 + 1, none⟩ (.int .i64 t1)).setCell ⟨g1, done.length * 5 + 2, none⟩ (.bool t2)).setCell ⟨g1, done.length * 5 + 3, none⟩ (.string t3)).setCell ⟨g1, done.length * 5 + 4, none⟩ vk).setCell ⟨q, 4, none⟩ (.slice (some ⟨g1, 0, none⟩) (done.length + 1) c1)) ∧ Kept w ((((((w1.setCell ⟨g1, done.length * 5, none⟩ (.string tx)).setCell ⟨g1, done.length * 5 + 1, none⟩ (.int .i64 t1)).setCell ⟨g1, done.length * 5 + 2, none⟩ (.bool t2)).setCell ⟨g1, done.length * 5 + 3, none⟩ (.string t3)).setCell ⟨g1, done.length * 5 + 4, none⟩ vk).setCell ⟨q, 4, none⟩ (.slice (some ⟨g1, 0, none⟩) (done.length + 1) c1)) (fun k => k = b ∨ k = g ∨ k = q) := by
  have hg1 : B ≤ g1 := own_base hown1 g1 rfl
  have hne : g1 ≠ q := by omega
  have hil : inner.length = done.length * 5 := hrep.1
  have hq6 : NAt ((((((w1.setCell ⟨g1, done.length * 5, none⟩ (.string tx)).setCell ⟨g1, done.length * 5 + 1, none⟩ (.int .i64 t1)).setCell ⟨g1, done.length * 5 + 2, none⟩ (.bool t2)).setCell ⟨g1, done.length * 5 + 3, none⟩ (.string t3)).setCell ⟨g1, done.length * 5 + 4, none⟩ vk).setCell ⟨q, 4, none⟩ (.slice (some ⟨g1, 0, none⟩) (done.length + 1) c1)) q nm kd ex dt (.slice (some ⟨g1, 0, none⟩) (done.length + 1) c1) := (blk_store (l := [_, _, _, _, _]) ((Below.heap_setCell _ ⟨g1, done.length * 5 + 4, none⟩ _ q (by show q ≠ g1; exact Ne.symm hne)).trans ((Below.heap_setCell _ ⟨g1, done.length * 5 + 3, none⟩ _ q (by show q ≠ g1; exact Ne.symm hne)).trans ((Below.heap_setCell _ ⟨g1, done.length * 5 + 2, none⟩ _ q (by show q ≠ g1; exact Ne.symm hne)).trans ((Below.heap_setCell _ ⟨g1, done.length * 5 + 1, none⟩ _ q (by show q ≠ g1; exact Ne.symm hne)).trans ((Below.heap_setCell _ ⟨g1, done.length * 5, none⟩ _ q (by show q ≠ g1; exact Ne.symm hne)).trans hq1))))) 4 _).trans rfl
  have ho := (own_other (j := 4) (own_set (i := done.length * 5 + 4) (own_set (i := done.length * 5 + 3) (own_set (i := done.length * 5 + 2) (own_set (i := done.length * 5 + 1) (own_set (i := done.length * 5) hown1 (by omega) (.string tx)) (by omega) (.int .i64 t1)) (by omega) (.bool t2)) (by omega) (.string t3)) (by omega) vk) hne (.slice (some ⟨g1, 0, none⟩) (done.length + 1) c1))
  rw [set5 inner done.length hil] at ho
  have HT := (((((((Two.refl w1 q g1).set (.inr rfl) (done.length * 5) (.string tx)).set (.inr rfl) (done.length * 5 + 1) (.int .i64 t1)).set (.inr rfl) (done.length * 5 + 2) (.bool t2)).set (.inr rfl) (done.length * 5 + 3) (.string t3)).set (.inr rfl) (done.length * 5 + 4) vk).set (.inl rfl) 4 (.slice (some ⟨g1, 0, none⟩) (done.length + 1) c1))
  obtain ⟨r1, r2, r3, r4⟩ := dir_fin hgq hbg hb0 hN hBq hBw H5 Q5 B5 K5 V6 V7 hrep HG1 hat hq6 ho HT
  exact ⟨r1, hq6, r2, r3, r4⟩
end Go.Proofs.Ytnnpfahlfmeakaa.PB

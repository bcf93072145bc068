import Derived.Test.YtalljcjignaafaaDoorQTreeKnown23
namespace Go.Proofs.YtalljcjignaafaaDoor.PB
open Go Go.RowKit Go.Proofs.YtalljcjignaafaaDoor Go.Proofs.YtalljcjignaafaaDoorW.PrintWords Go.Proofs.YtalljcjignaafaaDoorW.PrintLast Go.Proofs.YtalljcjignaafaaDoorW.PrintMore
set_option linter.unusedVariables false
set_option linter.unusedSimpArgs false
/-- A box that holds so many directories in one another. -/
structure ChI (W0 : World) (b : Nat) (wr : World) (n : Nat) (A : Option Addr) (c : Nat) : Prop where
  box : wr.heap[b]? = some (nodeCells (dr (chP n).f4) A c)
  foot : Kd.F k24 wr (fun k => k ≠ b) A (chP n).f4.length (chP n).f4
  le : (chP n).f4.length ≤ c
  low : Below W0.heap.size W0 wr
  base : W0.heap.size ≤ b
/-- While a directory is made of it: its name is laid, its row of one lies in a block of its own. -/
structure ChM (W0 : World) (b : Nat) (g : Nat) (wr : World) (n : Nat) (A : Option Addr) (c : Nat) : Prop where
  box : wr.heap[b]? = some (.cells #[.string ⟨#[100]⟩, .int .i64 2, .bool false, .string ⟨#[]⟩, .slice A (chP n).f4.length c] 24 (0, 0))
  row : wr.heap[g]? = some (.cells #[.string ⟨#[100]⟩, .int .i64 2, .bool false, .string ⟨#[]⟩, .slice A (chP n).f4.length c] 24 (0, 0))
  ne : g ≠ b
  foot : Kd.F k24 wr (fun k => k ≠ b) A (chP n).f4.length (chP n).f4
  le : (chP n).f4.length ≤ c
  low : Below W0.heap.size W0 wr
  base : W0.heap.size ≤ b
theorem ch_put {W0 : World} {b : Nat} {wr : World} {n : Nat} {A : Option Addr} {c : Nat} (h : ChI W0 b wr n A c) : ChM W0 b wr.heap.size ((wr.setCell ⟨b, 0, none⟩ (.string ⟨#[100]⟩)).alloc (.cells #[.string ⟨#[100]⟩, .int .i64 2, .bool false, .string ⟨#[]⟩, .slice A (chP n).f4.length c] 24)) n A c := by
  have h1 := blk_lt h.box
  refine ⟨blk_alloc ((blk_store (l := [_, _, _, _, _]) h.box 0 _).trans rfl) _, ?_, by omega, ?_, h.le, below_alloc (h.low.setCell (p := ⟨b, 0, none⟩) h.base _) _, h.base⟩
  · have h2 := heap_alloc_new (wr.setCell ⟨b, 0, none⟩ (.string ⟨#[100]⟩)) (.cells #[.string ⟨#[100]⟩, .int .i64 2, .bool false, .string ⟨#[]⟩, .slice A (chP n).f4.length c] 24)
    have h3 : (wr.setCell ⟨b, 0, none⟩ (.string ⟨#[100]⟩)).heap.size = wr.heap.size := by simp
    rwa [h3] at h2
  · exact Kd.F_alloc (Kd.F_step h.foot (fun k hk _ => Below.heap_setCell wr ⟨b, 0, none⟩ _ k hk)) _
theorem ch_below {W0 : World} {b g : Nat} {wr W : World} {n : Nat} {A : Option Addr} {c : Nat} (h : ChM W0 b g wr n A c) (hb : Below wr.heap.size wr W) : ChM W0 b g W n A c :=
  ⟨blk_below h.box hb, blk_below h.row hb, h.ne, Kd.F_below h.foot hb, h.le, below_then h.low h.low.size hb, h.base⟩
theorem ch_copy {W0 : World} {b : Nat} {wr : World} {n : Nat} {A : Option Addr} {c : Nat} (h : ChI W0 b wr n A c) : ChM wr wr.heap.size (wr.heap.size + 1) ((wr.alloc (.cells #[.string ⟨#[100]⟩, .int .i64 2, .bool false, .string ⟨#[]⟩, .slice A (chP n).f4.length c] 24)).alloc (.cells #[.string ⟨#[100]⟩, .int .i64 2, .bool false, .string ⟨#[]⟩, .slice A (chP n).f4.length c] 24)) n A c := by
  refine ⟨blk_alloc (heap_alloc_new wr _) _, ?_, by omega, ?_, h.le, below_alloc (below_alloc (Below.refl _ _) _) _, Nat.le_refl _⟩
  · have h2 := heap_alloc_new (wr.alloc (.cells #[.string ⟨#[100]⟩, .int .i64 2, .bool false, .string ⟨#[]⟩, .slice A (chP n).f4.length c] 24)) (.cells #[.string ⟨#[100]⟩, .int .i64 2, .bool false, .string ⟨#[]⟩, .slice A (chP n).f4.length c] 24)
    rwa [World.size_alloc] at h2
  · exact Kd.F_mono (Kd.F_below (Kd.F_bound h.foot) (below_alloc (below_alloc (Below.refl _ _) _) _)) (fun k hk => by have := hk.2; omega)
/-- A copy of a box, made behind it. -/
theorem ch_more {W0 : World} {b : Nat} {wr : World} {n : Nat} {A : Option Addr} {c : Nat} (h : ChI W0 b wr n A c) : ChI wr wr.heap.size (wr.alloc (.cells #[.string ⟨#[]⟩, .int .i64 2, .bool false, .string ⟨#[]⟩, .slice A (chP n).f4.length c] 24)) n A c :=
  ⟨heap_alloc_new wr _, Kd.F_mono (Kd.F_below (Kd.F_bound h.foot) (below_alloc (Below.refl _ _) _)) (fun k hk => by have := hk.2; omega), h.le, below_alloc (Below.refl _ _) _, Nat.le_refl _⟩
theorem ch_next {W0 : World} {b g : Nat} {wr : World} {n : Nat} {A : Option Addr} {c : Nat} (h : ChM W0 b g wr n A c) : ChI W0 b (put5 wr b (.string ⟨#[]⟩) (.int .i64 2) (.bool false) (.string ⟨#[]⟩) (.slice (some ⟨g, 0, none⟩) 1 1)) (n + 1) (some ⟨g, 0, none⟩) 1 := by
  have hg : ∀ W : World, (∀ k, k ≠ b → k < wr.heap.size → W.heap[k]? = wr.heap[k]?) → Kd.C k24 W (some ⟨g, 0, none⟩) 1 [⟨⟨#[100]⟩, 2, false, ⟨#[]⟩, (chP n).f4⟩] := fun W hW =>
    C_block (T := 24) (cs := [.string ⟨#[100]⟩, .int .i64 2, .bool false, .string ⟨#[]⟩, .slice A (chP n).f4.length c]) ((hW g h.ne (blk_lt h.row)).trans h.row)
      (Reps.c5 (k24_mk W ⟨⟨#[100]⟩, 2, false, ⟨#[]⟩, (chP n).f4⟩ h.le (Kd.F_now (Kd.F_step h.foot (fun k hk hlt => hW k hk hlt)))) (Reps.none _ _)) (by show 1 ≤ 9223372036854775807; decide)
  refine ⟨put5_at h.box _ _ _ _ _, fun W hW => hg W (fun k hk hlt => ?_), Nat.le_refl 1, put5_below h.low h.base _ _ _ _ _, h.base⟩
  exact (hW k hk (by rw [put5_size]; exact hlt)).trans (put5_other hk _ _ _ _ _)
set_option maxRecDepth 100000 in
set_option maxHeartbeats 20000000 in
theorem known_any (w : World) : Calls Tryd.prog 5 #[] w fun e w' => e = .returned (.bool true) ∧ Below w.heap.size w w' := by
  have hu := Tryd.underlying24
  have BW0 := Aside0.mk (Below.refl w.heap.size w)
  go_enter Tryd.func5, Tryd.ntmps5
  go_wp2_with fail
  refine (rep_calls 110 56 (by decide) _).mono ?_
  rintro e W1 ⟨rfl, hb⟩
  replace BW0 := Aside0.mk (below_then BW0.out BW0.out.size hb)
  clear hb
  go_wp2_with fail
  refine (file_x _ _ _).mono ?_
  rintro e W2 ⟨rfl, hb⟩
  replace BW0 := Aside0.mk (below_then BW0.out BW0.out.size hb)
  clear hb
  go_wp2_with fail
  obtain ⟨W3, hW⟩ : ∃ W3, W2.alloc (.cells #[.string ⟨#[97]⟩, .int .i64 1, .bool false, .string ⟨#[]⟩, .slice none 0 0] 24) = W3 := ⟨_, rfl⟩
  have hb := Aside0.mk (show Below W2.heap.size W2 W3 from by rw [← hW]; exact below_alloc (Below.refl _ _) _)
  have P3 := Aside0.mk (show Kd.C k24 W3 (some ⟨W2.heap.size, 0, none⟩) 1 [lf ⟨#[97]⟩ ⟨#[]⟩] from C_block (T := 24) (cs := [.string ⟨#[97]⟩, .int .i64 1, .bool false, .string ⟨#[]⟩, .slice none 0 0]) (by rw [← hW]; exact heap_alloc_new _ _) (Reps.c5 (mk_leaf W3 _ _ _ _) (Reps.none _ _)) (by decide))
  replace BW0 := Aside0.mk (below_then BW0.out BW0.out.size hb.out)
  rw [hW]
  clear hW hb
  generalize W2.heap.size = bP3 at *
  refine (rep_calls 108 256 (by decide) _).mono ?_
  rintro e W4 ⟨rfl, hb⟩
  replace P3 := Aside0.mk (Kd.C_below P3.out hb)
  replace BW0 := Aside0.mk (below_then BW0.out BW0.out.size hb)
  clear hb
  go_wp2_with fail
  refine (file_x _ _ _).mono ?_
  rintro e W5 ⟨rfl, hb⟩
  replace P3 := Aside0.mk (Kd.C_below P3.out hb)
  replace BW0 := Aside0.mk (below_then BW0.out BW0.out.size hb)
  clear hb
  go_wp2_with fail
  obtain ⟨W6, hW⟩ : ∃ W6, W5.alloc (.cells #[.string ⟨#[]⟩, .int .i64 1, .bool false, .string ⟨#[]⟩, .slice none 0 0] 24) = W6 := ⟨_, rfl⟩
  have hb := Aside0.mk (show Below W5.heap.size W5 W6 from by rw [← hW]; exact below_alloc (Below.refl _ _) _)
  replace P3 := Aside0.mk (Kd.C_below P3.out hb.out)
  have P10 := Aside0.mk (show Kd.C k24 W6 (some ⟨W5.heap.size, 0, none⟩) 1 [lf ⟨#[]⟩ ⟨#[]⟩] from C_block (T := 24) (cs := [.string ⟨#[]⟩, .int .i64 1, .bool false, .string ⟨#[]⟩, .slice none 0 0]) (by rw [← hW]; exact heap_alloc_new _ _) (Reps.c5 (mk_leaf W6 _ _ _ _) (Reps.none _ _)) (by decide))
  replace BW0 := Aside0.mk (below_then BW0.out BW0.out.size hb.out)
  rw [hW]
  clear hW hb
  generalize W5.heap.size = bP10 at *
  refine (dir_x _ _ _ _ _).mono ?_
  rintro e W7 ⟨rfl, hb⟩
  replace P3 := Aside0.mk (Kd.C_below P3.out hb)
  replace P10 := Aside0.mk (Kd.C_below P10.out hb)
  replace BW0 := Aside0.mk (below_then BW0.out BW0.out.size hb)
  clear hb
  go_wp2_with fail
  refine (file_x _ _ _).mono ?_
  rintro e W8 ⟨rfl, hb⟩
  replace P3 := Aside0.mk (Kd.C_below P3.out hb)
  replace P10 := Aside0.mk (Kd.C_below P10.out hb)
  replace BW0 := Aside0.mk (below_then BW0.out BW0.out.size hb)
  clear hb
  go_wp2_with fail
  obtain ⟨W9, hW⟩ : ∃ W9, W8.alloc (.cells #[.string ⟨#[46]⟩, .int .i64 1, .bool false, .string ⟨#[]⟩, .slice none 0 0] 24) = W9 := ⟨_, rfl⟩
  have hb := Aside0.mk (show Below W8.heap.size W8 W9 from by rw [← hW]; exact below_alloc (Below.refl _ _) _)
  replace P3 := Aside0.mk (Kd.C_below P3.out hb.out)
  replace P10 := Aside0.mk (Kd.C_below P10.out hb.out)
  have P11 := Aside0.mk (show Kd.C k24 W9 (some ⟨W8.heap.size, 0, none⟩) 1 [lf ⟨#[46]⟩ ⟨#[]⟩] from C_block (T := 24) (cs := [.string ⟨#[46]⟩, .int .i64 1, .bool false, .string ⟨#[]⟩, .slice none 0 0]) (by rw [← hW]; exact heap_alloc_new _ _) (Reps.c5 (mk_leaf W9 _ _ _ _) (Reps.none _ _)) (by decide))
  replace BW0 := Aside0.mk (below_then BW0.out BW0.out.size hb.out)
  rw [hW]
  clear hW hb
  generalize W8.heap.size = bP11 at *
  refine (dir_x _ _ _ _ _).mono ?_
  rintro e W10 ⟨rfl, hb⟩
  replace P3 := Aside0.mk (Kd.C_below P3.out hb)
  replace P10 := Aside0.mk (Kd.C_below P10.out hb)
  replace P11 := Aside0.mk (Kd.C_below P11.out hb)
  replace BW0 := Aside0.mk (below_then BW0.out BW0.out.size hb)
  clear hb
  go_wp2_with fail
  refine (file_x _ _ _).mono ?_
  rintro e W11 ⟨rfl, hb⟩
  replace P3 := Aside0.mk (Kd.C_below P3.out hb)
  replace P10 := Aside0.mk (Kd.C_below P10.out hb)
  replace P11 := Aside0.mk (Kd.C_below P11.out hb)
  replace BW0 := Aside0.mk (below_then BW0.out BW0.out.size hb)
  clear hb
  go_wp2_with fail
  obtain ⟨W12, hW⟩ : ∃ W12, W11.alloc (.cells #[.string ⟨#[46, 46]⟩, .int .i64 1, .bool false, .string ⟨#[]⟩, .slice none 0 0] 24) = W12 := ⟨_, rfl⟩
  have hb := Aside0.mk (show Below W11.heap.size W11 W12 from by rw [← hW]; exact below_alloc (Below.refl _ _) _)
  replace P3 := Aside0.mk (Kd.C_below P3.out hb.out)
  replace P10 := Aside0.mk (Kd.C_below P10.out hb.out)
  replace P11 := Aside0.mk (Kd.C_below P11.out hb.out)
  have P12 := Aside0.mk (show Kd.C k24 W12 (some ⟨W11.heap.size, 0, none⟩) 1 [lf ⟨#[46, 46]⟩ ⟨#[]⟩] from C_block (T := 24) (cs := [.string ⟨#[46, 46]⟩, .int .i64 1, .bool false, .string ⟨#[]⟩, .slice none 0 0]) (by rw [← hW]; exact heap_alloc_new _ _) (Reps.c5 (mk_leaf W12 _ _ _ _) (Reps.none _ _)) (by decide))
  replace BW0 := Aside0.mk (below_then BW0.out BW0.out.size hb.out)
  rw [hW]
  clear hW hb
  generalize W11.heap.size = bP12 at *
  refine (dir_x _ _ _ _ _).mono ?_
  rintro e W13 ⟨rfl, hb⟩
  replace P3 := Aside0.mk (Kd.C_below P3.out hb)
  replace P10 := Aside0.mk (Kd.C_below P10.out hb)
  replace P11 := Aside0.mk (Kd.C_below P11.out hb)
  replace P12 := Aside0.mk (Kd.C_below P12.out hb)
  replace BW0 := Aside0.mk (below_then BW0.out BW0.out.size hb)
  clear hb
  go_wp2_with fail
  refine (file_x _ _ _).mono ?_
  rintro e W14 ⟨rfl, hb⟩
  replace P3 := Aside0.mk (Kd.C_below P3.out hb)
  replace P10 := Aside0.mk (Kd.C_below P10.out hb)
  replace P11 := Aside0.mk (Kd.C_below P11.out hb)
  replace P12 := Aside0.mk (Kd.C_below P12.out hb)
  replace BW0 := Aside0.mk (below_then BW0.out BW0.out.size hb)
  clear hb
  go_wp2_with fail
  obtain ⟨W15, hW⟩ : ∃ W15, W14.alloc (.cells #[.string ⟨#[97, 47, 98]⟩, .int .i64 1, .bool false, .string ⟨#[]⟩, .slice none 0 0] 24) = W15 := ⟨_, rfl⟩
  have hb := Aside0.mk (show Below W14.heap.size W14 W15 from by rw [← hW]; exact below_alloc (Below.refl _ _) _)
  replace P3 := Aside0.mk (Kd.C_below P3.out hb.out)
  replace P10 := Aside0.mk (Kd.C_below P10.out hb.out)
  replace P11 := Aside0.mk (Kd.C_below P11.out hb.out)
  replace P12 := Aside0.mk (Kd.C_below P12.out hb.out)
  have P13 := Aside0.mk (show Kd.C k24 W15 (some ⟨W14.heap.size, 0, none⟩) 1 [lf ⟨#[97, 47, 98]⟩ ⟨#[]⟩] from C_block (T := 24) (cs := [.string ⟨#[97, 47, 98]⟩, .int .i64 1, .bool false, .string ⟨#[]⟩, .slice none 0 0]) (by rw [← hW]; exact heap_alloc_new _ _) (Reps.c5 (mk_leaf W15 _ _ _ _) (Reps.none _ _)) (by decide))
  replace BW0 := Aside0.mk (below_then BW0.out BW0.out.size hb.out)
  rw [hW]
  clear hW hb
  generalize W14.heap.size = bP13 at *
  refine (dir_x _ _ _ _ _).mono ?_
  rintro e W16 ⟨rfl, hb⟩
  replace P3 := Aside0.mk (Kd.C_below P3.out hb)
  replace P10 := Aside0.mk (Kd.C_below P10.out hb)
  replace P11 := Aside0.mk (Kd.C_below P11.out hb)
  replace P12 := Aside0.mk (Kd.C_below P12.out hb)
  replace P13 := Aside0.mk (Kd.C_below P13.out hb)
  replace BW0 := Aside0.mk (below_then BW0.out BW0.out.size hb)
  clear hb
  go_wp2_with fail
  refine (file_x _ _ _).mono ?_
  rintro e W17 ⟨rfl, hb⟩
  replace P3 := Aside0.mk (Kd.C_below P3.out hb)
  replace P10 := Aside0.mk (Kd.C_below P10.out hb)
  replace P11 := Aside0.mk (Kd.C_below P11.out hb)
  replace P12 := Aside0.mk (Kd.C_below P12.out hb)
  replace P13 := Aside0.mk (Kd.C_below P13.out hb)
  replace BW0 := Aside0.mk (below_then BW0.out BW0.out.size hb)
  clear hb
  go_wp2_with fail
  obtain ⟨W18, hW⟩ : ∃ W18, W17.alloc (.cells #[.string ⟨#[97, 0]⟩, .int .i64 1, .bool false, .string ⟨#[]⟩, .slice none 0 0] 24) = W18 := ⟨_, rfl⟩
  have hb := Aside0.mk (show Below W17.heap.size W17 W18 from by rw [← hW]; exact below_alloc (Below.refl _ _) _)
  replace P3 := Aside0.mk (Kd.C_below P3.out hb.out)
  replace P10 := Aside0.mk (Kd.C_below P10.out hb.out)
  replace P11 := Aside0.mk (Kd.C_below P11.out hb.out)
  replace P12 := Aside0.mk (Kd.C_below P12.out hb.out)
  replace P13 := Aside0.mk (Kd.C_below P13.out hb.out)
  have P14 := Aside0.mk (show Kd.C k24 W18 (some ⟨W17.heap.size, 0, none⟩) 1 [lf ⟨#[97, 0]⟩ ⟨#[]⟩] from C_block (T := 24) (cs := [.string ⟨#[97, 0]⟩, .int .i64 1, .bool false, .string ⟨#[]⟩, .slice none 0 0]) (by rw [← hW]; exact heap_alloc_new _ _) (Reps.c5 (mk_leaf W18 _ _ _ _) (Reps.none _ _)) (by decide))
  replace BW0 := Aside0.mk (below_then BW0.out BW0.out.size hb.out)
  rw [hW]
  clear hW hb
  generalize W17.heap.size = bP14 at *
  refine (dir_x _ _ _ _ _).mono ?_
  rintro e W19 ⟨rfl, hb⟩
  replace P3 := Aside0.mk (Kd.C_below P3.out hb)
  replace P10 := Aside0.mk (Kd.C_below P10.out hb)
  replace P11 := Aside0.mk (Kd.C_below P11.out hb)
  replace P12 := Aside0.mk (Kd.C_below P12.out hb)
  replace P13 := Aside0.mk (Kd.C_below P13.out hb)
  replace P14 := Aside0.mk (Kd.C_below P14.out hb)
  replace BW0 := Aside0.mk (below_then BW0.out BW0.out.size hb)
  clear hb
  have hln : (repB 110 56).size + (⟨#[110]⟩ : ByteArray).size ≤ 9223372036854775807 := by
    have h1 : (⟨#[110]⟩ : ByteArray).size = 1 := rfl
    rw [repB_size, h1]
    decide
  go_wp2_with fail
  refine (file_x _ _ _).mono ?_
  rintro e W20 ⟨rfl, hb⟩
  replace P3 := Aside0.mk (Kd.C_below P3.out hb)
  replace P10 := Aside0.mk (Kd.C_below P10.out hb)
  replace P11 := Aside0.mk (Kd.C_below P11.out hb)
  replace P12 := Aside0.mk (Kd.C_below P12.out hb)
  replace P13 := Aside0.mk (Kd.C_below P13.out hb)
  replace P14 := Aside0.mk (Kd.C_below P14.out hb)
  replace BW0 := Aside0.mk (below_then BW0.out BW0.out.size hb)
  clear hb
  go_wp2_with fail
  obtain ⟨W21, hW⟩ : ∃ W21, W20.alloc (.cells #[.string (repB 110 56 ++ ⟨#[110]⟩), .int .i64 1, .bool false, .string ⟨#[]⟩, .slice none 0 0] 24) = W21 := ⟨_, rfl⟩
  have hb := Aside0.mk (show Below W20.heap.size W20 W21 from by rw [← hW]; exact below_alloc (Below.refl _ _) _)
  replace P3 := Aside0.mk (Kd.C_below P3.out hb.out)
  replace P10 := Aside0.mk (Kd.C_below P10.out hb.out)
  replace P11 := Aside0.mk (Kd.C_below P11.out hb.out)
  replace P12 := Aside0.mk (Kd.C_below P12.out hb.out)
  replace P13 := Aside0.mk (Kd.C_below P13.out hb.out)
  replace P14 := Aside0.mk (Kd.C_below P14.out hb.out)
  have P15 := Aside0.mk (show Kd.C k24 W21 (some ⟨W20.heap.size, 0, none⟩) 1 [lf LNn ⟨#[]⟩] from C_block (T := 24) (cs := [.string (repB 110 56 ++ ⟨#[110]⟩), .int .i64 1, .bool false, .string ⟨#[]⟩, .slice none 0 0]) (by rw [← hW]; exact heap_alloc_new _ _) (Reps.c5 (mk_leaf W21 _ _ _ _) (Reps.none _ _)) (by decide))
  replace BW0 := Aside0.mk (below_then BW0.out BW0.out.size hb.out)
  rw [hW]
  clear hW hb
  generalize W20.heap.size = bP15 at *
  refine (dir_x _ _ _ _ _).mono ?_
  rintro e W22 ⟨rfl, hb⟩
  replace P3 := Aside0.mk (Kd.C_below P3.out hb)
  replace P10 := Aside0.mk (Kd.C_below P10.out hb)
  replace P11 := Aside0.mk (Kd.C_below P11.out hb)
  replace P12 := Aside0.mk (Kd.C_below P12.out hb)
  replace P13 := Aside0.mk (Kd.C_below P13.out hb)
  replace P14 := Aside0.mk (Kd.C_below P14.out hb)
  replace P15 := Aside0.mk (Kd.C_below P15.out hb)
  replace BW0 := Aside0.mk (below_then BW0.out BW0.out.size hb)
  clear hb
  clear hln
  go_wp2_with fail
  refine (file_x _ _ _).mono ?_
  rintro e W23 ⟨rfl, hb⟩
  replace P3 := Aside0.mk (Kd.C_below P3.out hb)
  replace P10 := Aside0.mk (Kd.C_below P10.out hb)
  replace P11 := Aside0.mk (Kd.C_below P11.out hb)
  replace P12 := Aside0.mk (Kd.C_below P12.out hb)
  replace P13 := Aside0.mk (Kd.C_below P13.out hb)
  replace P14 := Aside0.mk (Kd.C_below P14.out hb)
  replace P15 := Aside0.mk (Kd.C_below P15.out hb)
  replace BW0 := Aside0.mk (below_then BW0.out BW0.out.size hb)
  clear hb
  go_wp2_with fail
  refine (file_x _ _ _).mono ?_
  rintro e W24 ⟨rfl, hb⟩
  replace P3 := Aside0.mk (Kd.C_below P3.out hb)
  replace P10 := Aside0.mk (Kd.C_below P10.out hb)
  replace P11 := Aside0.mk (Kd.C_below P11.out hb)
  replace P12 := Aside0.mk (Kd.C_below P12.out hb)
  replace P13 := Aside0.mk (Kd.C_below P13.out hb)
  replace P14 := Aside0.mk (Kd.C_below P14.out hb)
  replace P15 := Aside0.mk (Kd.C_below P15.out hb)
  replace BW0 := Aside0.mk (below_then BW0.out BW0.out.size hb)
  clear hb
  go_wp2_with fail
  obtain ⟨W25, hW⟩ : ∃ W25, W24.alloc (.cells #[.string ⟨#[97]⟩, .int .i64 1, .bool false, .string ⟨#[]⟩, .slice none 0 0, .string ⟨#[97]⟩, .int .i64 1, .bool false, .string ⟨#[]⟩, .slice none 0 0] 24) = W25 := ⟨_, rfl⟩
  have hb := Aside0.mk (show Below W24.heap.size W24 W25 from by rw [← hW]; exact below_alloc (Below.refl _ _) _)
  replace P3 := Aside0.mk (Kd.C_below P3.out hb.out)
  replace P10 := Aside0.mk (Kd.C_below P10.out hb.out)
  replace P11 := Aside0.mk (Kd.C_below P11.out hb.out)
  replace P12 := Aside0.mk (Kd.C_below P12.out hb.out)
  replace P13 := Aside0.mk (Kd.C_below P13.out hb.out)
  replace P14 := Aside0.mk (Kd.C_below P14.out hb.out)
  replace P15 := Aside0.mk (Kd.C_below P15.out hb.out)
  have P16 := Aside0.mk (show Kd.C k24 W25 (some ⟨W24.heap.size, 0, none⟩) 2 [lf ⟨#[97]⟩ ⟨#[]⟩, lf ⟨#[97]⟩ ⟨#[]⟩] from C_block (T := 24) (cs := [.string ⟨#[97]⟩, .int .i64 1, .bool false, .string ⟨#[]⟩, .slice none 0 0, .string ⟨#[97]⟩, .int .i64 1, .bool false, .string ⟨#[]⟩, .slice none 0 0]) (by rw [← hW]; exact heap_alloc_new _ _) (Reps.c5 (mk_leaf W25 _ _ _ _) (Reps.c5 (mk_leaf W25 _ _ _ _) (Reps.none _ _))) (by decide))
  replace BW0 := Aside0.mk (below_then BW0.out BW0.out.size hb.out)
  rw [hW]
  clear hW hb
  generalize W24.heap.size = bP16 at *
  refine (dir_x _ _ _ _ _).mono ?_
  rintro e W26 ⟨rfl, hb⟩
  replace P3 := Aside0.mk (Kd.C_below P3.out hb)
  replace P10 := Aside0.mk (Kd.C_below P10.out hb)
  replace P11 := Aside0.mk (Kd.C_below P11.out hb)
  replace P12 := Aside0.mk (Kd.C_below P12.out hb)
  replace P13 := Aside0.mk (Kd.C_below P13.out hb)
  replace P14 := Aside0.mk (Kd.C_below P14.out hb)
  replace P15 := Aside0.mk (Kd.C_below P15.out hb)
  replace P16 := Aside0.mk (Kd.C_below P16.out hb)
  replace BW0 := Aside0.mk (below_then BW0.out BW0.out.size hb)
  clear hb
  go_wp2_with fail
  obtain ⟨W27, hW⟩ : ∃ W27, W26.alloc (.cells #[.string ⟨#[120]⟩, .int .i64 0, .bool false, .string ⟨#[]⟩, .slice none 0 0] 24) = W27 := ⟨_, rfl⟩
  have hb := Aside0.mk (show Below W26.heap.size W26 W27 from by rw [← hW]; exact below_alloc (Below.refl _ _) _)
  replace P3 := Aside0.mk (Kd.C_below P3.out hb.out)
  replace P10 := Aside0.mk (Kd.C_below P10.out hb.out)
  replace P11 := Aside0.mk (Kd.C_below P11.out hb.out)
  replace P12 := Aside0.mk (Kd.C_below P12.out hb.out)
  replace P13 := Aside0.mk (Kd.C_below P13.out hb.out)
  replace P14 := Aside0.mk (Kd.C_below P14.out hb.out)
  replace P15 := Aside0.mk (Kd.C_below P15.out hb.out)
  replace P16 := Aside0.mk (Kd.C_below P16.out hb.out)
  have P17 := Aside0.mk (show Kd.C k24 W27 (some ⟨W26.heap.size, 0, none⟩) 1 [nXx] from C_block (T := 24) (cs := [.string ⟨#[120]⟩, .int .i64 0, .bool false, .string ⟨#[]⟩, .slice none 0 0]) (by rw [← hW]; exact heap_alloc_new _ _) (Reps.c5 (mk_leaf W27 _ _ _ _) (Reps.none _ _)) (by decide))
  replace BW0 := Aside0.mk (below_then BW0.out BW0.out.size hb.out)
  rw [hW]
  clear hW hb
  generalize W26.heap.size = bP17 at *
  refine (dir_x _ _ _ _ _).mono ?_
  rintro e W28 ⟨rfl, hb⟩
  replace P3 := Aside0.mk (Kd.C_below P3.out hb)
  replace P10 := Aside0.mk (Kd.C_below P10.out hb)
  replace P11 := Aside0.mk (Kd.C_below P11.out hb)
  replace P12 := Aside0.mk (Kd.C_below P12.out hb)
  replace P13 := Aside0.mk (Kd.C_below P13.out hb)
  replace P14 := Aside0.mk (Kd.C_below P14.out hb)
  replace P15 := Aside0.mk (Kd.C_below P15.out hb)
  replace P16 := Aside0.mk (Kd.C_below P16.out hb)
  replace P17 := Aside0.mk (Kd.C_below P17.out hb)
  replace BW0 := Aside0.mk (below_then BW0.out BW0.out.size hb)
  clear hb
  go_wp2_with fail
  obtain ⟨W29, hW⟩ : ∃ W29, W28.alloc (.cells #[.string ⟨#[100]⟩, .int .i64 2, .bool false, .string ⟨#[]⟩, .slice (some ⟨bP17, 0, none⟩) 1 1] 24) = W29 := ⟨_, rfl⟩
  have hb := Aside0.mk (show Below W28.heap.size W28 W29 from by rw [← hW]; exact below_alloc (Below.refl _ _) _)
  replace P3 := Aside0.mk (Kd.C_below P3.out hb.out)
  replace P10 := Aside0.mk (Kd.C_below P10.out hb.out)
  replace P11 := Aside0.mk (Kd.C_below P11.out hb.out)
  replace P12 := Aside0.mk (Kd.C_below P12.out hb.out)
  replace P13 := Aside0.mk (Kd.C_below P13.out hb.out)
  replace P14 := Aside0.mk (Kd.C_below P14.out hb.out)
  replace P15 := Aside0.mk (Kd.C_below P15.out hb.out)
  replace P16 := Aside0.mk (Kd.C_below P16.out hb.out)
  replace P17 := Aside0.mk (Kd.C_below P17.out hb.out)
  have P18 := Aside0.mk (show Kd.C k24 W29 (some ⟨W28.heap.size, 0, none⟩) 1 [nDx] from C_block (T := 24) (cs := [.string ⟨#[100]⟩, .int .i64 2, .bool false, .string ⟨#[]⟩, .slice (some ⟨bP17, 0, none⟩) 1 1]) (by rw [← hW]; exact heap_alloc_new _ _) (Reps.c5 (k24_mk W29 (nDx) (c4 := 1) (Nat.le_refl 1) P17.out) (Reps.none _ _)) (by decide))
  replace BW0 := Aside0.mk (below_then BW0.out BW0.out.size hb.out)
  rw [hW]
  clear hW hb
  generalize W28.heap.size = bP18 at *
  refine (dir_x _ _ _ _ _).mono ?_
  rintro e W30 ⟨rfl, hb⟩
  replace P3 := Aside0.mk (Kd.C_below P3.out hb)
  replace P10 := Aside0.mk (Kd.C_below P10.out hb)
  replace P11 := Aside0.mk (Kd.C_below P11.out hb)
  replace P12 := Aside0.mk (Kd.C_below P12.out hb)
  replace P13 := Aside0.mk (Kd.C_below P13.out hb)
  replace P14 := Aside0.mk (Kd.C_below P14.out hb)
  replace P15 := Aside0.mk (Kd.C_below P15.out hb)
  replace P16 := Aside0.mk (Kd.C_below P16.out hb)
  replace P17 := Aside0.mk (Kd.C_below P17.out hb)
  replace P18 := Aside0.mk (Kd.C_below P18.out hb)
  replace BW0 := Aside0.mk (below_then BW0.out BW0.out.size hb)
  clear hb
  go_wp2_with fail
  refine (dir_x _ _ _ _ _).mono ?_
  rintro e W31 ⟨rfl, hb⟩
  replace P3 := Aside0.mk (Kd.C_below P3.out hb)
  replace P10 := Aside0.mk (Kd.C_below P10.out hb)
  replace P11 := Aside0.mk (Kd.C_below P11.out hb)
  replace P12 := Aside0.mk (Kd.C_below P12.out hb)
  replace P13 := Aside0.mk (Kd.C_below P13.out hb)
  replace P14 := Aside0.mk (Kd.C_below P14.out hb)
  replace P15 := Aside0.mk (Kd.C_below P15.out hb)
  replace P16 := Aside0.mk (Kd.C_below P16.out hb)
  replace P17 := Aside0.mk (Kd.C_below P17.out hb)
  replace P18 := Aside0.mk (Kd.C_below P18.out hb)
  replace BW0 := Aside0.mk (below_then BW0.out BW0.out.size hb)
  clear hb
  go_wp2_with fail
  obtain ⟨W32, hW⟩ : ∃ W32, W31.alloc (.cells #[.string ⟨#[]⟩, .int .i64 0, .bool false, .string ⟨#[]⟩, .slice none 0 0, .string ⟨#[]⟩, .int .i64 4, .bool false, .string ⟨#[]⟩, .slice none 0 0, .string ⟨#[]⟩, .int .i64 (-1), .bool false, .string ⟨#[]⟩, .slice none 0 0, .string ⟨#[]⟩, .int .i64 1, .bool false, .string ⟨#[]⟩, .slice (some ⟨bP3, 0, none⟩) 1 1, .string ⟨#[]⟩, .int .i64 2, .bool true, .string ⟨#[]⟩, .slice none 0 0, .string ⟨#[]⟩, .int .i64 2, .bool false, .string ⟨#[120]⟩, .slice none 0 0, .string ⟨#[]⟩, .int .i64 3, .bool false, .string ⟨#[]⟩, .slice none 0 0, .string ⟨#[]⟩, .int .i64 3, .bool true, .string ⟨#[97]⟩, .slice none 0 0, .string ⟨#[]⟩, .int .i64 3, .bool false, .string ⟨#[97, 0]⟩, .slice none 0 0, .string ⟨#[]⟩, .int .i64 3, .bool false, .string (repB 108 256), .slice none 0 0, .string ⟨#[]⟩, .int .i64 2, .bool false, .string ⟨#[]⟩, .slice (some ⟨bP10, 0, none⟩) 1 1, .string ⟨#[]⟩, .int .i64 2, .bool false, .string ⟨#[]⟩, .slice (some ⟨bP11, 0, none⟩) 1 1, .string ⟨#[]⟩, .int .i64 2, .bool false, .string ⟨#[]⟩, .slice (some ⟨bP12, 0, none⟩) 1 1, .string ⟨#[]⟩, .int .i64 2, .bool false, .string ⟨#[]⟩, .slice (some ⟨bP13, 0, none⟩) 1 1, .string ⟨#[]⟩, .int .i64 2, .bool false, .string ⟨#[]⟩, .slice (some ⟨bP14, 0, none⟩) 1 1, .string ⟨#[]⟩, .int .i64 2, .bool false, .string ⟨#[]⟩, .slice (some ⟨bP15, 0, none⟩) 1 1, .string ⟨#[]⟩, .int .i64 2, .bool false, .string ⟨#[]⟩, .slice (some ⟨bP16, 0, none⟩) 2 2, .string ⟨#[]⟩, .int .i64 2, .bool false, .string ⟨#[]⟩, .slice (some ⟨bP18, 0, none⟩) 1 1, .string ⟨#[120]⟩, .int .i64 2, .bool false, .string ⟨#[]⟩, .slice none 0 0] 24) = W32 := ⟨_, rfl⟩
  have hb := Aside0.mk (show Below W31.heap.size W31 W32 from by rw [← hW]; exact below_alloc (Below.refl _ _) _)
  replace P3 := Aside0.mk (Kd.C_below P3.out hb.out)
  replace P10 := Aside0.mk (Kd.C_below P10.out hb.out)
  replace P11 := Aside0.mk (Kd.C_below P11.out hb.out)
  replace P12 := Aside0.mk (Kd.C_below P12.out hb.out)
  replace P13 := Aside0.mk (Kd.C_below P13.out hb.out)
  replace P14 := Aside0.mk (Kd.C_below P14.out hb.out)
  replace P15 := Aside0.mk (Kd.C_below P15.out hb.out)
  replace P16 := Aside0.mk (Kd.C_below P16.out hb.out)
  replace P17 := Aside0.mk (Kd.C_below P17.out hb.out)
  replace P18 := Aside0.mk (Kd.C_below P18.out hb.out)
  have PB := Aside0.mk (show Kd.C k24 W32 (some ⟨W31.heap.size, 0, none⟩) 19 bads from C_block (T := 24) (cs := [.string ⟨#[]⟩, .int .i64 0, .bool false, .string ⟨#[]⟩, .slice none 0 0, .string ⟨#[]⟩, .int .i64 4, .bool false, .string ⟨#[]⟩, .slice none 0 0, .string ⟨#[]⟩, .int .i64 (-1), .bool false, .string ⟨#[]⟩, .slice none 0 0, .string ⟨#[]⟩, .int .i64 1, .bool false, .string ⟨#[]⟩, .slice (some ⟨bP3, 0, none⟩) 1 1, .string ⟨#[]⟩, .int .i64 2, .bool true, .string ⟨#[]⟩, .slice none 0 0, .string ⟨#[]⟩, .int .i64 2, .bool false, .string ⟨#[120]⟩, .slice none 0 0, .string ⟨#[]⟩, .int .i64 3, .bool false, .string ⟨#[]⟩, .slice none 0 0, .string ⟨#[]⟩, .int .i64 3, .bool true, .string ⟨#[97]⟩, .slice none 0 0, .string ⟨#[]⟩, .int .i64 3, .bool false, .string ⟨#[97, 0]⟩, .slice none 0 0, .string ⟨#[]⟩, .int .i64 3, .bool false, .string (repB 108 256), .slice none 0 0, .string ⟨#[]⟩, .int .i64 2, .bool false, .string ⟨#[]⟩, .slice (some ⟨bP10, 0, none⟩) 1 1, .string ⟨#[]⟩, .int .i64 2, .bool false, .string ⟨#[]⟩, .slice (some ⟨bP11, 0, none⟩) 1 1, .string ⟨#[]⟩, .int .i64 2, .bool false, .string ⟨#[]⟩, .slice (some ⟨bP12, 0, none⟩) 1 1, .string ⟨#[]⟩, .int .i64 2, .bool false, .string ⟨#[]⟩, .slice (some ⟨bP13, 0, none⟩) 1 1, .string ⟨#[]⟩, .int .i64 2, .bool false, .string ⟨#[]⟩, .slice (some ⟨bP14, 0, none⟩) 1 1, .string ⟨#[]⟩, .int .i64 2, .bool false, .string ⟨#[]⟩, .slice (some ⟨bP15, 0, none⟩) 1 1, .string ⟨#[]⟩, .int .i64 2, .bool false, .string ⟨#[]⟩, .slice (some ⟨bP16, 0, none⟩) 2 2, .string ⟨#[]⟩, .int .i64 2, .bool false, .string ⟨#[]⟩, .slice (some ⟨bP18, 0, none⟩) 1 1, .string ⟨#[120]⟩, .int .i64 2, .bool false, .string ⟨#[]⟩, .slice none 0 0]) (by rw [← hW]; exact heap_alloc_new _ _) (Reps.c5 (mk_leaf W32 _ _ _ _) (Reps.c5 (mk_leaf W32 _ _ _ _) (Reps.c5 (mk_leaf W32 _ _ _ _) (Reps.c5 (k24_mk W32 (⟨⟨#[]⟩, 1, false, ⟨#[]⟩, [lf ⟨#[97]⟩ ⟨#[]⟩]⟩) (c4 := 1) (Nat.le_refl 1) P3.out) (Reps.c5 (mk_leaf W32 _ _ _ _) (Reps.c5 (mk_leaf W32 _ _ _ _) (Reps.c5 (mk_leaf W32 _ _ _ _) (Reps.c5 (mk_leaf W32 _ _ _ _) (Reps.c5 (mk_leaf W32 _ _ _ _) (Reps.c5 (mk_leaf W32 _ _ _ _) (Reps.c5 (k24_mk W32 (dr [lf ⟨#[]⟩ ⟨#[]⟩]) (c4 := 1) (Nat.le_refl 1) P10.out) (Reps.c5 (k24_mk W32 (dr [lf ⟨#[46]⟩ ⟨#[]⟩]) (c4 := 1) (Nat.le_refl 1) P11.out) (Reps.c5 (k24_mk W32 (dr [lf ⟨#[46, 46]⟩ ⟨#[]⟩]) (c4 := 1) (Nat.le_refl 1) P12.out) (Reps.c5 (k24_mk W32 (dr [lf ⟨#[97, 47, 98]⟩ ⟨#[]⟩]) (c4 := 1) (Nat.le_refl 1) P13.out) (Reps.c5 (k24_mk W32 (dr [lf ⟨#[97, 0]⟩ ⟨#[]⟩]) (c4 := 1) (Nat.le_refl 1) P14.out) (Reps.c5 (k24_mk W32 (dr [lf LNn ⟨#[]⟩]) (c4 := 1) (Nat.le_refl 1) P15.out) (Reps.c5 (k24_mk W32 (dr [lf ⟨#[97]⟩ ⟨#[]⟩, lf ⟨#[97]⟩ ⟨#[]⟩]) (c4 := 2) (Nat.le_refl 2) P16.out) (Reps.c5 (k24_mk W32 (dr [nDx]) (c4 := 1) (Nat.le_refl 1) P18.out) (Reps.c5 (mk_leaf W32 _ _ _ _) (Reps.none _ _)))))))))))))))))))) (by decide))
  replace BW0 := Aside0.mk (below_then BW0.out BW0.out.size hb.out)
  rw [hW]
  clear hW hb
  generalize W31.heap.size = bPB at *
  clear P3
  clear P10
  clear P11
  clear P12
  clear P13
  clear P14
  clear P15
  clear P16
  clear P17
  clear P18
  generalize (⟨bPB, 0, none⟩ : Addr) = ad at *
  go_loopw [3] (fun i wr => ∃ k : Nat, k ≤ 19 ∧ i = .int .i64 k ∧ Aside0 (Below W32.heap.size W32 wr)) (fun i _ => 19 - (intOf i).toNat)
  case atStart => exact ⟨0, Nat.zero_le _, rfl, ⟨Below.refl _ _⟩⟩
  case round =>
    obtain ⟨k, hk, rfl, HB⟩ := hrel
    by_cases hlt : k < 19
    · have hltI : (k : Int) < (19 : Int) := by omega
      have hk0 : (0 : Int) ≤ (k : Int) := Int.natCast_nonneg _
      obtain ⟨ad1, A4, c4, hA, e0, e1, e2, e3, e4, l4, g4⟩ := at_T24 (Kd.C_below PB.out HB.out) (k : Int) hk0 hltI
      obtain rfl := Option.some.inj hA
      have HX := Aside0.mk (bads_ok (rd_T24 bads (k : Int)) (rd_mem _ _ hk0 hltI))
      generalize rd_T24 bads (k : Int) = x at *
      rw [Int.toNat_natCast] at e0 e1 e2 e3 e4
      have HCK := Aside0.mk (show Calls Tryd.prog 9 #[.agg #[.string x.f0, .int .i64 x.f1, .bool x.f2, .string x.f3, .slice A4 x.f4.length c4]] wr fun e w' => e = .returned (.int .i64 2) ∧ Below wr.heap.size wr w' from by
        have h := chk_calls x HX.out.1 HX.out.2.1 A4 c4 wr g4 l4
        rwa [HX.out.2.2] at h)
      clear l4 g4
      go_wp2_with fail
      refine HCK.out.mono ?_
      rintro e w1 ⟨rfl, hb⟩
      have HB9 := Aside0.mk (And.intro (below_then HB.out HB.out.size hb) True.intro)
      clear hb e0 e1 e2 e3 e4
      go_wp2_with fail
      go_roundw
      case rel => first | exact ⟨k + 1, by omega, by go_num, ⟨HB9.out.1⟩⟩ | ((repeat apply Exists.intro); exact ⟨⟨k + 1, by omega, by go_num, ⟨HB9.out.1⟩⟩, rfl⟩)
      case measure => simp [intOf]; omega
    · have hkk : k = 19 := by omega
      subst hkk
      replace BW0 := Aside0.mk (below_then BW0.out BW0.out.size HB.out)
      clear hk hlt HB PB
      go_wp2_with fail
      refine (file_x _ _ _).mono ?_
      rintro e W34 ⟨rfl, hb⟩
      replace BW0 := Aside0.mk (below_then BW0.out BW0.out.size hb)
      clear hb
      go_wp2_with fail
      refine (file_x _ _ _).mono ?_
      rintro e W35 ⟨rfl, hb⟩
      replace BW0 := Aside0.mk (below_then BW0.out BW0.out.size hb)
      clear hb
      go_wp2_with fail
      refine (rep_calls 108 255 (by decide) _).mono ?_
      rintro e W36 ⟨rfl, hb⟩
      replace BW0 := Aside0.mk (below_then BW0.out BW0.out.size hb)
      clear hb
      go_wp2_with fail
      refine (link_x _ _ _).mono ?_
      rintro e W37 ⟨rfl, hb⟩
      replace BW0 := Aside0.mk (below_then BW0.out BW0.out.size hb)
      clear hb
      go_wp2_with fail
      refine (dir_x _ _ _ _ _).mono ?_
      rintro e W38 ⟨rfl, hb⟩
      replace BW0 := Aside0.mk (below_then BW0.out BW0.out.size hb)
      clear hb
      go_wp2_with fail
      refine (file_x _ _ _).mono ?_
      rintro e W39 ⟨rfl, hb⟩
      replace BW0 := Aside0.mk (below_then BW0.out BW0.out.size hb)
      clear hb
      go_wp2_with fail
      refine (file_x _ _ _).mono ?_
      rintro e W40 ⟨rfl, hb⟩
      replace BW0 := Aside0.mk (below_then BW0.out BW0.out.size hb)
      clear hb
      go_wp2_with fail
      refine (file_x _ _ _).mono ?_
      rintro e W41 ⟨rfl, hb⟩
      replace BW0 := Aside0.mk (below_then BW0.out BW0.out.size hb)
      clear hb
      go_wp2_with fail
      obtain ⟨W42, hW⟩ : ∃ W42, W41.alloc (.cells #[.string ⟨#[46, 46, 46]⟩, .int .i64 1, .bool false, .string ⟨#[]⟩, .slice none 0 0, .string (repB 110 56), .int .i64 1, .bool false, .string ⟨#[]⟩, .slice none 0 0, .string ⟨#[255]⟩, .int .i64 1, .bool false, .string ⟨#[]⟩, .slice none 0 0] 24) = W42 := ⟨_, rfl⟩
      have hb := Aside0.mk (show Below W41.heap.size W41 W42 from by rw [← hW]; exact below_alloc (Below.refl _ _) _)
      have G5 := Aside0.mk (show Kd.C k24 W42 (some ⟨W41.heap.size, 0, none⟩) 3 [lf ⟨#[46, 46, 46]⟩ ⟨#[]⟩, lf LN ⟨#[]⟩, lf ⟨#[255]⟩ ⟨#[]⟩] from C_block (T := 24) (cs := [.string ⟨#[46, 46, 46]⟩, .int .i64 1, .bool false, .string ⟨#[]⟩, .slice none 0 0, .string (repB 110 56), .int .i64 1, .bool false, .string ⟨#[]⟩, .slice none 0 0, .string ⟨#[255]⟩, .int .i64 1, .bool false, .string ⟨#[]⟩, .slice none 0 0]) (by rw [← hW]; exact heap_alloc_new _ _) (Reps.c5 (mk_leaf W42 _ _ _ _) (Reps.c5 (mk_leaf W42 _ _ _ _) (Reps.c5 (mk_leaf W42 _ _ _ _) (Reps.none _ _)))) (by decide))
      replace BW0 := Aside0.mk (below_then BW0.out BW0.out.size hb.out)
      rw [hW]
      clear hW hb
      generalize W41.heap.size = bG5 at *
      refine (dir_x _ _ _ _ _).mono ?_
      rintro e W43 ⟨rfl, hb⟩
      replace G5 := Aside0.mk (Kd.C_below G5.out hb)
      replace BW0 := Aside0.mk (below_then BW0.out BW0.out.size hb)
      clear hb
      go_wp2_with fail
      obtain ⟨W44, hW⟩ : ∃ W44, W43.alloc (.cells #[.string ⟨#[]⟩, .int .i64 1, .bool false, .string ⟨#[]⟩, .slice none 0 0, .string ⟨#[]⟩, .int .i64 1, .bool false, .string ⟨#[0]⟩, .slice none 0 0, .string ⟨#[]⟩, .int .i64 1, .bool true, .string ⟨#[]⟩, .slice none 0 0, .string ⟨#[]⟩, .int .i64 3, .bool false, .string (repB 108 255), .slice none 0 0, .string ⟨#[]⟩, .int .i64 2, .bool false, .string ⟨#[]⟩, .slice none 0 0, .string ⟨#[]⟩, .int .i64 2, .bool false, .string ⟨#[]⟩, .slice (some ⟨bG5, 0, none⟩) 3 3] 24) = W44 := ⟨_, rfl⟩
      have hb := Aside0.mk (show Below W43.heap.size W43 W44 from by rw [← hW]; exact below_alloc (Below.refl _ _) _)
      replace G5 := Aside0.mk (Kd.C_below G5.out hb.out)
      have PG := Aside0.mk (show Kd.C k24 W44 (some ⟨W43.heap.size, 0, none⟩) 6 goods from C_block (T := 24) (cs := [.string ⟨#[]⟩, .int .i64 1, .bool false, .string ⟨#[]⟩, .slice none 0 0, .string ⟨#[]⟩, .int .i64 1, .bool false, .string ⟨#[0]⟩, .slice none 0 0, .string ⟨#[]⟩, .int .i64 1, .bool true, .string ⟨#[]⟩, .slice none 0 0, .string ⟨#[]⟩, .int .i64 3, .bool false, .string (repB 108 255), .slice none 0 0, .string ⟨#[]⟩, .int .i64 2, .bool false, .string ⟨#[]⟩, .slice none 0 0, .string ⟨#[]⟩, .int .i64 2, .bool false, .string ⟨#[]⟩, .slice (some ⟨bG5, 0, none⟩) 3 3]) (by rw [← hW]; exact heap_alloc_new _ _) (Reps.c5 (mk_leaf W44 _ _ _ _) (Reps.c5 (mk_leaf W44 _ _ _ _) (Reps.c5 (mk_leaf W44 _ _ _ _) (Reps.c5 (mk_leaf W44 _ _ _ _) (Reps.c5 (mk_leaf W44 _ _ _ _) (Reps.c5 (k24_mk W44 (dr [lf ⟨#[46, 46, 46]⟩ ⟨#[]⟩, lf LN ⟨#[]⟩, lf ⟨#[255]⟩ ⟨#[]⟩]) (c4 := 3) (Nat.le_refl 3) G5.out) (Reps.none _ _))))))) (by decide))
      replace BW0 := Aside0.mk (below_then BW0.out BW0.out.size hb.out)
      rw [hW]
      clear hW hb
      generalize W43.heap.size = bPG at *
      clear G5
      generalize (⟨bPG, 0, none⟩ : Addr) = ad2 at *
      go_loopw [5] (fun i wr => ∃ k : Nat, k ≤ 6 ∧ i = .int .i64 k ∧ Aside0 (Below W44.heap.size W44 wr)) (fun i _ => 6 - (intOf i).toNat)
      case atStart => exact ⟨0, Nat.zero_le _, rfl, ⟨Below.refl _ _⟩⟩
      case round =>
        obtain ⟨k, hk, rfl, HB⟩ := hrel
        by_cases hlt : k < 6
        · have hltI : (k : Int) < (6 : Int) := by omega
          have hk0 : (0 : Int) ≤ (k : Int) := Int.natCast_nonneg _
          obtain ⟨ad1, A4, c4, hA, e0, e1, e2, e3, e4, l4, g4⟩ := at_T24 (Kd.C_below PG.out HB.out) (k : Int) hk0 hltI
          obtain rfl := Option.some.inj hA
          have HX := Aside0.mk (goods_ok (rd_T24 goods (k : Int)) (rd_mem _ _ hk0 hltI))
          generalize rd_T24 goods (k : Int) = x at *
          rw [Int.toNat_natCast] at e0 e1 e2 e3 e4
          have HCK := Aside0.mk (show Calls Tryd.prog 9 #[.agg #[.string x.f0, .int .i64 x.f1, .bool x.f2, .string x.f3, .slice A4 x.f4.length c4]] wr fun e w' => e = .returned (.int .i64 0) ∧ Below wr.heap.size wr w' from by
            have h := chk_calls x HX.out.1 HX.out.2.1 A4 c4 wr g4 l4
            rwa [HX.out.2.2] at h)
          clear l4 g4
          go_wp2_with fail
          refine HCK.out.mono ?_
          rintro e w1 ⟨rfl, hb⟩
          have HB9 := Aside0.mk (And.intro (below_then HB.out HB.out.size hb) True.intro)
          clear hb e0 e1 e2 e3 e4
          go_wp2_with fail
          go_roundw
          case rel => first | exact ⟨k + 1, by omega, by go_num, ⟨HB9.out.1⟩⟩ | ((repeat apply Exists.intro); exact ⟨⟨k + 1, by omega, by go_num, ⟨HB9.out.1⟩⟩, rfl⟩)
          case measure => simp [intOf]; omega
        · have hkk : k = 6 := by omega
          subst hkk
          replace BW0 := Aside0.mk (below_then BW0.out BW0.out.size HB.out)
          clear hk hlt HB PG
          go_wp2_with fail
          refine (dir_x _ _ _ _ _).mono ?_
          rintro e W46 ⟨rfl, hb⟩
          replace BW0 := Aside0.mk (below_then BW0.out BW0.out.size hb)
          clear hb
          go_wp2_with fail
          obtain ⟨WT, hW⟩ : ∃ WT, W46.alloc (.cells #[.string ⟨#[]⟩, .int .i64 2, .bool false, .string ⟨#[]⟩, .slice none 0 0] 24) = WT := ⟨_, rfl⟩
          have CI0 := Aside0.mk (show ChI W46 W46.heap.size WT 0 none 0 from ⟨by rw [← hW]; exact heap_alloc_new _ _, Kd.F_nil _ _ _, Nat.zero_le _, by rw [← hW]; exact below_alloc (Below.refl _ _) _, Nat.le_refl _⟩)
          rw [hW]
          clear hW
          obtain ⟨bT, hbT⟩ : ∃ bT, W46.heap.size = bT := ⟨_, rfl⟩
          rw [hbT] at CI0
          rw [hbT]
          clear hbT
          go_loopw [7] (fun i wr => ∃ (j : Nat) (A : Option Addr) (c : Nat), j ≤ 11 ∧ i = .int .i64 j ∧ Aside0 (ChI W46 bT wr (0 + j) A c)) (fun i _ => 11 - (intOf i).toNat)
          case atStart => exact ⟨0, _, _, Nat.zero_le _, rfl, CI0⟩
          case round =>
            obtain ⟨j, A, c, hj, rfl, HI⟩ := hrel
            obtain ⟨m, hmj⟩ : ∃ m, 0 + j = m := ⟨_, rfl⟩
            rw [hmj] at HI
            have HM := Aside0.mk hmj
            clear hmj
            have D0 := Aside0.mk HI.out.box
            have x0 := (blk_cell D0.out 0).trans (rfl : _ = some (Value.string ⟨#[]⟩))
            have x1 := (blk_cell D0.out 1).trans (rfl : _ = some (Value.int .i64 2))
            have x2 := (blk_cell D0.out 2).trans (rfl : _ = some (Value.bool false))
            have x3 := (blk_cell D0.out 3).trans (rfl : _ = some (Value.string ⟨#[]⟩))
            have x4 := (blk_cell D0.out 4).trans (rfl : _ = some (Value.slice A (chP m).f4.length c))
            have hbw := blk_lt D0.out
            by_cases hlt : j < 11
            · have y0 := blk_nofreeze D0.out 0
              go_wp2_with fail
              have HST := Aside0.mk (ch_put HI.out)
              obtain ⟨W1, hW1⟩ : ∃ W1, (wr.setCell ⟨bT, 0, none⟩ (.string ⟨#[100]⟩)).alloc (.cells #[.string ⟨#[100]⟩, .int .i64 2, .bool false, .string ⟨#[]⟩, .slice A (chP m).f4.length c] 24) = W1 := ⟨_, rfl⟩
              rw [hW1] at HST ⊢
              clear hW1 x0 x1 x2 x3 x4 y0
              refine (dir_x _ _ _ _ W1).mono ?_
              rintro e W2 ⟨rfl, hb⟩
              have E0 := Aside0.mk (blk_below HST.out.box hb)
              have HS2 := Aside0.mk (ch_below HST.out hb)
              clear hb HST
              have x0 := (blk_cell E0.out 0).trans (rfl : _ = some (Value.string ⟨#[100]⟩))
              have x1 := (blk_cell E0.out 1).trans (rfl : _ = some (Value.int .i64 2))
              have x2 := (blk_cell E0.out 2).trans (rfl : _ = some (Value.bool false))
              have x3 := (blk_cell E0.out 3).trans (rfl : _ = some (Value.string ⟨#[]⟩))
              have x4 := (blk_cell E0.out 4).trans (rfl : _ = some (Value.slice A (chP m).f4.length c))
              have u0 := blk_nofreeze E0.out 0
              have u1 := blk_nofreeze E0.out 1
              have u2 := blk_nofreeze E0.out 2
              have u3 := blk_nofreeze E0.out 3
              have u4 := blk_nofreeze E0.out 4
              have HN := Aside0.mk (ch_next HS2.out)
              rw [show m + 1 = 0 + (j + 1) from by have := HM.out; omega] at HN
              have HN2 := Aside0.mk HN.out
              clear HN
              go_wp2_with fail
              go_roundw
              case rel => first | exact ⟨j + 1, _, _, by omega, by go_num, HN2⟩ | ((repeat apply Exists.intro); exact ⟨⟨j + 1, _, _, by omega, by go_num, HN2⟩, rfl⟩)
              case measure => simp [intOf]; omega
            · have hjj : j = 11 := by omega
              subst hjj
              obtain rfl : m = 11 := HM.out.symm
              clear hj hlt HM
              have HT := Aside0.mk HI.out
              clear HI D0 CI0
              have HK := Aside0.mk (ch_copy HT.out)
              go_wp2_with fail
              refine (dir_x _ _ _ _ _).mono ?_
              rintro e W50 ⟨rfl, hb⟩
              have HM2 := Aside0.mk (ch_below HK.out hb)
              clear hb HK x0 x1 x2 x3 x4 hbw
              have E0 := Aside0.mk HM2.out.box
              have x0 := (blk_cell E0.out 0).trans (rfl : _ = some (Value.string ⟨#[100]⟩))
              have x1 := (blk_cell E0.out 1).trans (rfl : _ = some (Value.int .i64 2))
              have x2 := (blk_cell E0.out 2).trans (rfl : _ = some (Value.bool false))
              have x3 := (blk_cell E0.out 3).trans (rfl : _ = some (Value.string ⟨#[]⟩))
              have x4 := (blk_cell E0.out 4).trans (rfl : _ = some (Value.slice A (chP 11).f4.length c))
              have u0 := blk_nofreeze E0.out 0
              have u1 := blk_nofreeze E0.out 1
              have u2 := blk_nofreeze E0.out 2
              have u3 := blk_nofreeze E0.out 3
              have u4 := blk_nofreeze E0.out 4
              have HN := Aside0.mk (ch_next HM2.out)
              have hbw := blk_lt E0.out
              obtain ⟨b8, hb8⟩ : ∃ b8, wr.heap.size = b8 := ⟨_, rfl⟩
              have HB8 := Aside0.mk hb8
              rw [hb8] at HN E0 hbw x0 x1 x2 x3 x4 u0 u1 u2 u3 u4
              rw [hb8]
              clear hb8
              have H9 := Aside0.mk (ch_more HN.out)
              go_wp2_with fail
              clear x0 x1 x2 x3 x4 u0 u1 u2 u3 u4 hbw E0 HM2
              unfold put5 at HN H9
              have HSZ := Aside0.mk (show (((((W50.setCell ⟨b8, 0, none⟩ (.string ⟨#[]⟩)).setCell ⟨b8, 1, none⟩ (.int .i64 2)).setCell ⟨b8, 2, none⟩ (.bool false)).setCell ⟨b8, 3, none⟩ (.string ⟨#[]⟩)).setCell ⟨b8, 4, none⟩ (.slice (some ⟨b8 + 1, 0, none⟩) 1 1)).heap.size = W50.heap.size from by simp)
              generalize ((((W50.setCell ⟨b8, 0, none⟩ (.string ⟨#[]⟩)).setCell ⟨b8, 1, none⟩ (.int .i64 2)).setCell ⟨b8, 2, none⟩ (.bool false)).setCell ⟨b8, 3, none⟩ (.string ⟨#[]⟩)).setCell ⟨b8, 4, none⟩ (.slice (some ⟨b8 + 1, 0, none⟩) 1 1) = W3 at HN H9 HSZ ⊢
              rw [HSZ.out] at H9
              have CI0 := Aside0.mk (show ChI W3 W50.heap.size (W3.alloc (.cells #[.string ⟨#[]⟩, .int .i64 2, .bool false, .string ⟨#[]⟩, .slice (some ⟨b8 + 1, 0, none⟩) 1 1] 24)) 12 (some ⟨b8 + 1, 0, none⟩) 1 from H9.out)
              clear H9 HSZ
              generalize W3.alloc (.cells #[.string ⟨#[]⟩, .int .i64 2, .bool false, .string ⟨#[]⟩, .slice (some ⟨b8 + 1, 0, none⟩) 1 1] 24) = W4 at CI0 ⊢
              generalize W50.heap.size = b9 at CI0 ⊢
              generalize (some ⟨b8 + 1, 0, none⟩ : Option Addr) = A8 at *
              have CT := Aside0.mk (And.intro HT.out (And.intro HN.out HB8.out))
              clear HT HN HB8
              generalize wr = wT at *
              generalize A = A6 at *
              generalize c = c6 at *
              go_loopw [10] (fun i wr => ∃ (j : Nat) (A : Option Addr) (c : Nat), j ≤ 7 ∧ i = .int .i64 j ∧ Aside0 (ChI W3 b9 wr (12 + j) A c)) (fun i _ => 7 - (intOf i).toNat)
              case atStart => exact ⟨0, _, _, Nat.zero_le _, rfl, CI0⟩
              case round =>
                obtain ⟨j, A, c, hj, rfl, HI⟩ := hrel
                obtain ⟨m, hmj⟩ : ∃ m, 12 + j = m := ⟨_, rfl⟩
                rw [hmj] at HI
                have HM := Aside0.mk hmj
                clear hmj
                have D0 := Aside0.mk HI.out.box
                have x0 := (blk_cell D0.out 0).trans (rfl : _ = some (Value.string ⟨#[]⟩))
                have x1 := (blk_cell D0.out 1).trans (rfl : _ = some (Value.int .i64 2))
                have x2 := (blk_cell D0.out 2).trans (rfl : _ = some (Value.bool false))
                have x3 := (blk_cell D0.out 3).trans (rfl : _ = some (Value.string ⟨#[]⟩))
                have x4 := (blk_cell D0.out 4).trans (rfl : _ = some (Value.slice A (chP m).f4.length c))
                have hbw := blk_lt D0.out
                by_cases hlt : j < 7
                · have y0 := blk_nofreeze D0.out 0
                  go_wp2_with fail
                  have HST := Aside0.mk (ch_put HI.out)
                  obtain ⟨W1, hW1⟩ : ∃ W1, (wr.setCell ⟨b9, 0, none⟩ (.string ⟨#[100]⟩)).alloc (.cells #[.string ⟨#[100]⟩, .int .i64 2, .bool false, .string ⟨#[]⟩, .slice A (chP m).f4.length c] 24) = W1 := ⟨_, rfl⟩
                  rw [hW1] at HST ⊢
                  clear hW1 x0 x1 x2 x3 x4 y0
                  refine (dir_x _ _ _ _ W1).mono ?_
                  rintro e W2 ⟨rfl, hb⟩
                  have E0 := Aside0.mk (blk_below HST.out.box hb)
                  have HS2 := Aside0.mk (ch_below HST.out hb)
                  clear hb HST
                  have x0 := (blk_cell E0.out 0).trans (rfl : _ = some (Value.string ⟨#[100]⟩))
                  have x1 := (blk_cell E0.out 1).trans (rfl : _ = some (Value.int .i64 2))
                  have x2 := (blk_cell E0.out 2).trans (rfl : _ = some (Value.bool false))
                  have x3 := (blk_cell E0.out 3).trans (rfl : _ = some (Value.string ⟨#[]⟩))
                  have x4 := (blk_cell E0.out 4).trans (rfl : _ = some (Value.slice A (chP m).f4.length c))
                  have u0 := blk_nofreeze E0.out 0
                  have u1 := blk_nofreeze E0.out 1
                  have u2 := blk_nofreeze E0.out 2
                  have u3 := blk_nofreeze E0.out 3
                  have u4 := blk_nofreeze E0.out 4
                  have HN := Aside0.mk (ch_next HS2.out)
                  rw [show m + 1 = 12 + (j + 1) from by have := HM.out; omega] at HN
                  have HN2 := Aside0.mk HN.out
                  clear HN
                  go_wp2_with fail
                  go_roundw
                  case rel => first | exact ⟨j + 1, _, _, by omega, by go_num, HN2⟩ | ((repeat apply Exists.intro); exact ⟨⟨j + 1, _, _, by omega, by go_num, HN2⟩, rfl⟩)
                  case measure => simp [intOf]; omega
                · have hjj : j = 7 := by omega
                  subst hjj
                  obtain rfl : m = 19 := HM.out.symm
                  clear hj hlt HM
                  obtain ⟨hT, hN, hB8⟩ := CT.out
                  have low3 : Below wT.heap.size wT wr := below_then hN.low hN.low.size HI.out.low
                  have BE := Aside0.mk (show Below w.heap.size w wr from below_then (below_then BW0.out BW0.out.size hT.low) (Nat.le_trans BW0.out.size hT.low.size) low3)
                  have X6 := Aside0.mk (blk_below hT.box low3)
                  have C6 := Aside0.mk (Kd.C_below (Kd.F_now hT.foot) low3)
                  have X8 := Aside0.mk (blk_below hN.box HI.out.low)
                  have C8 := Aside0.mk (Kd.C_below (Kd.F_now hN.foot) HI.out.low)
                  have X9 := Aside0.mk HI.out.box
                  have C9 := Aside0.mk (Kd.F_now HI.out.foot)
                  have LE := Aside0.mk (And.intro hT.le (And.intro hN.le HI.out.le))
                  clear hT hN hB8 low3 CT HI D0 x0 x1 x2 x3 x4 hbw CI0 BW0
                  have p0 := (blk_cell X6.out 0).trans (rfl : _ = some (Value.string ⟨#[]⟩))
                  have p1 := (blk_cell X6.out 1).trans (rfl : _ = some (Value.int .i64 2))
                  have p2 := (blk_cell X6.out 2).trans (rfl : _ = some (Value.bool false))
                  have p3 := (blk_cell X6.out 3).trans (rfl : _ = some (Value.string ⟨#[]⟩))
                  have p4 := (blk_cell X6.out 4).trans (rfl : _ = some (Value.slice A6 (chP 11).f4.length c6))
                  have q0 := (blk_cell X8.out 0).trans (rfl : _ = some (Value.string ⟨#[]⟩))
                  have q1 := (blk_cell X8.out 1).trans (rfl : _ = some (Value.int .i64 2))
                  have q2 := (blk_cell X8.out 2).trans (rfl : _ = some (Value.bool false))
                  have q3 := (blk_cell X8.out 3).trans (rfl : _ = some (Value.string ⟨#[]⟩))
                  have q4 := (blk_cell X8.out 4).trans (rfl : _ = some (Value.slice A8 1 1))
                  have r0 := (blk_cell X9.out 0).trans (rfl : _ = some (Value.string ⟨#[]⟩))
                  have r1 := (blk_cell X9.out 1).trans (rfl : _ = some (Value.int .i64 2))
                  have r2 := (blk_cell X9.out 2).trans (rfl : _ = some (Value.bool false))
                  have r3 := (blk_cell X9.out 3).trans (rfl : _ = some (Value.string ⟨#[]⟩))
                  have r4 := (blk_cell X9.out 4).trans (rfl : _ = some (Value.slice A (chP 19).f4.length c))
                  go_wp2_with fail
                  clear p0 p1 p2 p3 p4 q0 q1 q2 q3 q4 r0 r1 r2 r3 r4
                  refine (ch_size 12 (by decide) (by decide) _ _ _ C8.out LE.out.2.1).mono ?_
                  rintro e W47 ⟨rfl, hb⟩
                  replace X6 := Aside0.mk (blk_below X6.out hb)
                  replace X8 := Aside0.mk (blk_below X8.out hb)
                  replace X9 := Aside0.mk (blk_below X9.out hb)
                  replace C6 := Aside0.mk (Kd.C_below C6.out hb)
                  replace C8 := Aside0.mk (Kd.C_below C8.out hb)
                  replace C9 := Aside0.mk (Kd.C_below C9.out hb)
                  replace BE := Aside0.mk (below_then BE.out BE.out.size hb)
                  clear hb
                  have p0 := (blk_cell X6.out 0).trans (rfl : _ = some (Value.string ⟨#[]⟩))
                  have p1 := (blk_cell X6.out 1).trans (rfl : _ = some (Value.int .i64 2))
                  have p2 := (blk_cell X6.out 2).trans (rfl : _ = some (Value.bool false))
                  have p3 := (blk_cell X6.out 3).trans (rfl : _ = some (Value.string ⟨#[]⟩))
                  have p4 := (blk_cell X6.out 4).trans (rfl : _ = some (Value.slice A6 (chP 11).f4.length c6))
                  have q0 := (blk_cell X8.out 0).trans (rfl : _ = some (Value.string ⟨#[]⟩))
                  have q1 := (blk_cell X8.out 1).trans (rfl : _ = some (Value.int .i64 2))
                  have q2 := (blk_cell X8.out 2).trans (rfl : _ = some (Value.bool false))
                  have q3 := (blk_cell X8.out 3).trans (rfl : _ = some (Value.string ⟨#[]⟩))
                  have q4 := (blk_cell X8.out 4).trans (rfl : _ = some (Value.slice A8 1 1))
                  have r0 := (blk_cell X9.out 0).trans (rfl : _ = some (Value.string ⟨#[]⟩))
                  have r1 := (blk_cell X9.out 1).trans (rfl : _ = some (Value.int .i64 2))
                  have r2 := (blk_cell X9.out 2).trans (rfl : _ = some (Value.bool false))
                  have r3 := (blk_cell X9.out 3).trans (rfl : _ = some (Value.string ⟨#[]⟩))
                  have r4 := (blk_cell X9.out 4).trans (rfl : _ = some (Value.slice A (chP 19).f4.length c))
                  go_wp2_with fail
                  clear p0 p1 p2 p3 p4 q0 q1 q2 q3 q4 r0 r1 r2 r3 r4
                  refine (works_any _).mono ?_
                  rintro e W48 ⟨rfl, hb⟩
                  replace X6 := Aside0.mk (blk_below X6.out hb)
                  replace X8 := Aside0.mk (blk_below X8.out hb)
                  replace X9 := Aside0.mk (blk_below X9.out hb)
                  replace C6 := Aside0.mk (Kd.C_below C6.out hb)
                  replace C8 := Aside0.mk (Kd.C_below C8.out hb)
                  replace C9 := Aside0.mk (Kd.C_below C9.out hb)
                  replace BE := Aside0.mk (below_then BE.out BE.out.size hb)
                  clear hb
                  have p0 := (blk_cell X6.out 0).trans (rfl : _ = some (Value.string ⟨#[]⟩))
                  have p1 := (blk_cell X6.out 1).trans (rfl : _ = some (Value.int .i64 2))
                  have p2 := (blk_cell X6.out 2).trans (rfl : _ = some (Value.bool false))
                  have p3 := (blk_cell X6.out 3).trans (rfl : _ = some (Value.string ⟨#[]⟩))
                  have p4 := (blk_cell X6.out 4).trans (rfl : _ = some (Value.slice A6 (chP 11).f4.length c6))
                  have q0 := (blk_cell X8.out 0).trans (rfl : _ = some (Value.string ⟨#[]⟩))
                  have q1 := (blk_cell X8.out 1).trans (rfl : _ = some (Value.int .i64 2))
                  have q2 := (blk_cell X8.out 2).trans (rfl : _ = some (Value.bool false))
                  have q3 := (blk_cell X8.out 3).trans (rfl : _ = some (Value.string ⟨#[]⟩))
                  have q4 := (blk_cell X8.out 4).trans (rfl : _ = some (Value.slice A8 1 1))
                  have r0 := (blk_cell X9.out 0).trans (rfl : _ = some (Value.string ⟨#[]⟩))
                  have r1 := (blk_cell X9.out 1).trans (rfl : _ = some (Value.int .i64 2))
                  have r2 := (blk_cell X9.out 2).trans (rfl : _ = some (Value.bool false))
                  have r3 := (blk_cell X9.out 3).trans (rfl : _ = some (Value.string ⟨#[]⟩))
                  have r4 := (blk_cell X9.out 4).trans (rfl : _ = some (Value.slice A (chP 19).f4.length c))
                  go_wp2_with fail
                  clear p0 p1 p2 p3 p4 q0 q1 q2 q3 q4 r0 r1 r2 r3 r4
                  refine (ch_deep 11 (by decide) 12 rfl _ _ _ C6.out LE.out.1).mono ?_
                  rintro e W49 ⟨rfl, hb⟩
                  replace X6 := Aside0.mk (blk_below X6.out hb)
                  replace X8 := Aside0.mk (blk_below X8.out hb)
                  replace X9 := Aside0.mk (blk_below X9.out hb)
                  replace C6 := Aside0.mk (Kd.C_below C6.out hb)
                  replace C8 := Aside0.mk (Kd.C_below C8.out hb)
                  replace C9 := Aside0.mk (Kd.C_below C9.out hb)
                  replace BE := Aside0.mk (below_then BE.out BE.out.size hb)
                  clear hb
                  have p0 := (blk_cell X6.out 0).trans (rfl : _ = some (Value.string ⟨#[]⟩))
                  have p1 := (blk_cell X6.out 1).trans (rfl : _ = some (Value.int .i64 2))
                  have p2 := (blk_cell X6.out 2).trans (rfl : _ = some (Value.bool false))
                  have p3 := (blk_cell X6.out 3).trans (rfl : _ = some (Value.string ⟨#[]⟩))
                  have p4 := (blk_cell X6.out 4).trans (rfl : _ = some (Value.slice A6 (chP 11).f4.length c6))
                  have q0 := (blk_cell X8.out 0).trans (rfl : _ = some (Value.string ⟨#[]⟩))
                  have q1 := (blk_cell X8.out 1).trans (rfl : _ = some (Value.int .i64 2))
                  have q2 := (blk_cell X8.out 2).trans (rfl : _ = some (Value.bool false))
                  have q3 := (blk_cell X8.out 3).trans (rfl : _ = some (Value.string ⟨#[]⟩))
                  have q4 := (blk_cell X8.out 4).trans (rfl : _ = some (Value.slice A8 1 1))
                  have r0 := (blk_cell X9.out 0).trans (rfl : _ = some (Value.string ⟨#[]⟩))
                  have r1 := (blk_cell X9.out 1).trans (rfl : _ = some (Value.int .i64 2))
                  have r2 := (blk_cell X9.out 2).trans (rfl : _ = some (Value.bool false))
                  have r3 := (blk_cell X9.out 3).trans (rfl : _ = some (Value.string ⟨#[]⟩))
                  have r4 := (blk_cell X9.out 4).trans (rfl : _ = some (Value.slice A (chP 19).f4.length c))
                  go_wp2_with fail
                  clear p0 p1 p2 p3 p4 q0 q1 q2 q3 q4 r0 r1 r2 r3 r4
                  refine (ch_chk 11 (by decide) 0 (by decide +kernel) _ _ _ C6.out LE.out.1).mono ?_
                  rintro e W50 ⟨rfl, hb⟩
                  replace X6 := Aside0.mk (blk_below X6.out hb)
                  replace X8 := Aside0.mk (blk_below X8.out hb)
                  replace X9 := Aside0.mk (blk_below X9.out hb)
                  replace C6 := Aside0.mk (Kd.C_below C6.out hb)
                  replace C8 := Aside0.mk (Kd.C_below C8.out hb)
                  replace C9 := Aside0.mk (Kd.C_below C9.out hb)
                  replace BE := Aside0.mk (below_then BE.out BE.out.size hb)
                  clear hb
                  have p0 := (blk_cell X6.out 0).trans (rfl : _ = some (Value.string ⟨#[]⟩))
                  have p1 := (blk_cell X6.out 1).trans (rfl : _ = some (Value.int .i64 2))
                  have p2 := (blk_cell X6.out 2).trans (rfl : _ = some (Value.bool false))
                  have p3 := (blk_cell X6.out 3).trans (rfl : _ = some (Value.string ⟨#[]⟩))
                  have p4 := (blk_cell X6.out 4).trans (rfl : _ = some (Value.slice A6 (chP 11).f4.length c6))
                  have q0 := (blk_cell X8.out 0).trans (rfl : _ = some (Value.string ⟨#[]⟩))
                  have q1 := (blk_cell X8.out 1).trans (rfl : _ = some (Value.int .i64 2))
                  have q2 := (blk_cell X8.out 2).trans (rfl : _ = some (Value.bool false))
                  have q3 := (blk_cell X8.out 3).trans (rfl : _ = some (Value.string ⟨#[]⟩))
                  have q4 := (blk_cell X8.out 4).trans (rfl : _ = some (Value.slice A8 1 1))
                  have r0 := (blk_cell X9.out 0).trans (rfl : _ = some (Value.string ⟨#[]⟩))
                  have r1 := (blk_cell X9.out 1).trans (rfl : _ = some (Value.int .i64 2))
                  have r2 := (blk_cell X9.out 2).trans (rfl : _ = some (Value.bool false))
                  have r3 := (blk_cell X9.out 3).trans (rfl : _ = some (Value.string ⟨#[]⟩))
                  have r4 := (blk_cell X9.out 4).trans (rfl : _ = some (Value.slice A (chP 19).f4.length c))
                  go_wp2_with fail
                  clear p0 p1 p2 p3 p4 q0 q1 q2 q3 q4 r0 r1 r2 r3 r4
                  refine (ch_deep 12 (by decide) 13 rfl A8 1 _ C8.out LE.out.2.1).mono ?_
                  rintro e W51 ⟨rfl, hb⟩
                  replace X6 := Aside0.mk (blk_below X6.out hb)
                  replace X8 := Aside0.mk (blk_below X8.out hb)
                  replace X9 := Aside0.mk (blk_below X9.out hb)
                  replace C6 := Aside0.mk (Kd.C_below C6.out hb)
                  replace C8 := Aside0.mk (Kd.C_below C8.out hb)
                  replace C9 := Aside0.mk (Kd.C_below C9.out hb)
                  replace BE := Aside0.mk (below_then BE.out BE.out.size hb)
                  clear hb
                  have p0 := (blk_cell X6.out 0).trans (rfl : _ = some (Value.string ⟨#[]⟩))
                  have p1 := (blk_cell X6.out 1).trans (rfl : _ = some (Value.int .i64 2))
                  have p2 := (blk_cell X6.out 2).trans (rfl : _ = some (Value.bool false))
                  have p3 := (blk_cell X6.out 3).trans (rfl : _ = some (Value.string ⟨#[]⟩))
                  have p4 := (blk_cell X6.out 4).trans (rfl : _ = some (Value.slice A6 (chP 11).f4.length c6))
                  have q0 := (blk_cell X8.out 0).trans (rfl : _ = some (Value.string ⟨#[]⟩))
                  have q1 := (blk_cell X8.out 1).trans (rfl : _ = some (Value.int .i64 2))
                  have q2 := (blk_cell X8.out 2).trans (rfl : _ = some (Value.bool false))
                  have q3 := (blk_cell X8.out 3).trans (rfl : _ = some (Value.string ⟨#[]⟩))
                  have q4 := (blk_cell X8.out 4).trans (rfl : _ = some (Value.slice A8 1 1))
                  have r0 := (blk_cell X9.out 0).trans (rfl : _ = some (Value.string ⟨#[]⟩))
                  have r1 := (blk_cell X9.out 1).trans (rfl : _ = some (Value.int .i64 2))
                  have r2 := (blk_cell X9.out 2).trans (rfl : _ = some (Value.bool false))
                  have r3 := (blk_cell X9.out 3).trans (rfl : _ = some (Value.string ⟨#[]⟩))
                  have r4 := (blk_cell X9.out 4).trans (rfl : _ = some (Value.slice A (chP 19).f4.length c))
                  go_wp2_with fail
                  clear p0 p1 p2 p3 p4 q0 q1 q2 q3 q4 r0 r1 r2 r3 r4
                  refine (ch_chk 12 (by decide) 3 (by decide +kernel) A8 1 _ C8.out LE.out.2.1).mono ?_
                  rintro e W52 ⟨rfl, hb⟩
                  replace X6 := Aside0.mk (blk_below X6.out hb)
                  replace X8 := Aside0.mk (blk_below X8.out hb)
                  replace X9 := Aside0.mk (blk_below X9.out hb)
                  replace C6 := Aside0.mk (Kd.C_below C6.out hb)
                  replace C8 := Aside0.mk (Kd.C_below C8.out hb)
                  replace C9 := Aside0.mk (Kd.C_below C9.out hb)
                  replace BE := Aside0.mk (below_then BE.out BE.out.size hb)
                  clear hb
                  have p0 := (blk_cell X6.out 0).trans (rfl : _ = some (Value.string ⟨#[]⟩))
                  have p1 := (blk_cell X6.out 1).trans (rfl : _ = some (Value.int .i64 2))
                  have p2 := (blk_cell X6.out 2).trans (rfl : _ = some (Value.bool false))
                  have p3 := (blk_cell X6.out 3).trans (rfl : _ = some (Value.string ⟨#[]⟩))
                  have p4 := (blk_cell X6.out 4).trans (rfl : _ = some (Value.slice A6 (chP 11).f4.length c6))
                  have q0 := (blk_cell X8.out 0).trans (rfl : _ = some (Value.string ⟨#[]⟩))
                  have q1 := (blk_cell X8.out 1).trans (rfl : _ = some (Value.int .i64 2))
                  have q2 := (blk_cell X8.out 2).trans (rfl : _ = some (Value.bool false))
                  have q3 := (blk_cell X8.out 3).trans (rfl : _ = some (Value.string ⟨#[]⟩))
                  have q4 := (blk_cell X8.out 4).trans (rfl : _ = some (Value.slice A8 1 1))
                  have r0 := (blk_cell X9.out 0).trans (rfl : _ = some (Value.string ⟨#[]⟩))
                  have r1 := (blk_cell X9.out 1).trans (rfl : _ = some (Value.int .i64 2))
                  have r2 := (blk_cell X9.out 2).trans (rfl : _ = some (Value.bool false))
                  have r3 := (blk_cell X9.out 3).trans (rfl : _ = some (Value.string ⟨#[]⟩))
                  have r4 := (blk_cell X9.out 4).trans (rfl : _ = some (Value.slice A (chP 19).f4.length c))
                  go_wp2_with fail
                  clear p0 p1 p2 p3 p4 q0 q1 q2 q3 q4 r0 r1 r2 r3 r4
                  refine (ch_each 12 (by decide) (by decide) A8 1 _ C8.out LE.out.2.1).mono ?_
                  rintro e W53 ⟨Ae, ce, rfl, hb⟩
                  replace X6 := Aside0.mk (blk_below X6.out hb)
                  replace X8 := Aside0.mk (blk_below X8.out hb)
                  replace X9 := Aside0.mk (blk_below X9.out hb)
                  replace C6 := Aside0.mk (Kd.C_below C6.out hb)
                  replace C8 := Aside0.mk (Kd.C_below C8.out hb)
                  replace C9 := Aside0.mk (Kd.C_below C9.out hb)
                  replace BE := Aside0.mk (below_then BE.out BE.out.size hb)
                  clear hb
                  have p0 := (blk_cell X6.out 0).trans (rfl : _ = some (Value.string ⟨#[]⟩))
                  have p1 := (blk_cell X6.out 1).trans (rfl : _ = some (Value.int .i64 2))
                  have p2 := (blk_cell X6.out 2).trans (rfl : _ = some (Value.bool false))
                  have p3 := (blk_cell X6.out 3).trans (rfl : _ = some (Value.string ⟨#[]⟩))
                  have p4 := (blk_cell X6.out 4).trans (rfl : _ = some (Value.slice A6 (chP 11).f4.length c6))
                  have q0 := (blk_cell X8.out 0).trans (rfl : _ = some (Value.string ⟨#[]⟩))
                  have q1 := (blk_cell X8.out 1).trans (rfl : _ = some (Value.int .i64 2))
                  have q2 := (blk_cell X8.out 2).trans (rfl : _ = some (Value.bool false))
                  have q3 := (blk_cell X8.out 3).trans (rfl : _ = some (Value.string ⟨#[]⟩))
                  have q4 := (blk_cell X8.out 4).trans (rfl : _ = some (Value.slice A8 1 1))
                  have r0 := (blk_cell X9.out 0).trans (rfl : _ = some (Value.string ⟨#[]⟩))
                  have r1 := (blk_cell X9.out 1).trans (rfl : _ = some (Value.int .i64 2))
                  have r2 := (blk_cell X9.out 2).trans (rfl : _ = some (Value.bool false))
                  have r3 := (blk_cell X9.out 3).trans (rfl : _ = some (Value.string ⟨#[]⟩))
                  have r4 := (blk_cell X9.out 4).trans (rfl : _ = some (Value.slice A (chP 19).f4.length c))
                  go_wp2_with fail
                  clear p0 p1 p2 p3 p4 q0 q1 q2 q3 q4 r0 r1 r2 r3 r4
                  refine (ch_same 12 (by decide) (by decide +kernel) A8 1 _ C8.out LE.out.2.1).mono ?_
                  rintro e W54 ⟨rfl, hb⟩
                  replace X6 := Aside0.mk (blk_below X6.out hb)
                  replace X8 := Aside0.mk (blk_below X8.out hb)
                  replace X9 := Aside0.mk (blk_below X9.out hb)
                  replace C6 := Aside0.mk (Kd.C_below C6.out hb)
                  replace C8 := Aside0.mk (Kd.C_below C8.out hb)
                  replace C9 := Aside0.mk (Kd.C_below C9.out hb)
                  replace BE := Aside0.mk (below_then BE.out BE.out.size hb)
                  clear hb
                  have p0 := (blk_cell X6.out 0).trans (rfl : _ = some (Value.string ⟨#[]⟩))
                  have p1 := (blk_cell X6.out 1).trans (rfl : _ = some (Value.int .i64 2))
                  have p2 := (blk_cell X6.out 2).trans (rfl : _ = some (Value.bool false))
                  have p3 := (blk_cell X6.out 3).trans (rfl : _ = some (Value.string ⟨#[]⟩))
                  have p4 := (blk_cell X6.out 4).trans (rfl : _ = some (Value.slice A6 (chP 11).f4.length c6))
                  have q0 := (blk_cell X8.out 0).trans (rfl : _ = some (Value.string ⟨#[]⟩))
                  have q1 := (blk_cell X8.out 1).trans (rfl : _ = some (Value.int .i64 2))
                  have q2 := (blk_cell X8.out 2).trans (rfl : _ = some (Value.bool false))
                  have q3 := (blk_cell X8.out 3).trans (rfl : _ = some (Value.string ⟨#[]⟩))
                  have q4 := (blk_cell X8.out 4).trans (rfl : _ = some (Value.slice A8 1 1))
                  have r0 := (blk_cell X9.out 0).trans (rfl : _ = some (Value.string ⟨#[]⟩))
                  have r1 := (blk_cell X9.out 1).trans (rfl : _ = some (Value.int .i64 2))
                  have r2 := (blk_cell X9.out 2).trans (rfl : _ = some (Value.bool false))
                  have r3 := (blk_cell X9.out 3).trans (rfl : _ = some (Value.string ⟨#[]⟩))
                  have r4 := (blk_cell X9.out 4).trans (rfl : _ = some (Value.slice A (chP 19).f4.length c))
                  go_wp2_with fail
                  clear p0 p1 p2 p3 p4 q0 q1 q2 q3 q4 r0 r1 r2 r3 r4
                  refine (ch_deep 19 (by decide) 14 rfl _ _ _ C9.out LE.out.2.2).mono ?_
                  rintro e W55 ⟨rfl, hb⟩
                  replace X6 := Aside0.mk (blk_below X6.out hb)
                  replace X8 := Aside0.mk (blk_below X8.out hb)
                  replace X9 := Aside0.mk (blk_below X9.out hb)
                  replace C6 := Aside0.mk (Kd.C_below C6.out hb)
                  replace C8 := Aside0.mk (Kd.C_below C8.out hb)
                  replace C9 := Aside0.mk (Kd.C_below C9.out hb)
                  replace BE := Aside0.mk (below_then BE.out BE.out.size hb)
                  clear hb
                  have p0 := (blk_cell X6.out 0).trans (rfl : _ = some (Value.string ⟨#[]⟩))
                  have p1 := (blk_cell X6.out 1).trans (rfl : _ = some (Value.int .i64 2))
                  have p2 := (blk_cell X6.out 2).trans (rfl : _ = some (Value.bool false))
                  have p3 := (blk_cell X6.out 3).trans (rfl : _ = some (Value.string ⟨#[]⟩))
                  have p4 := (blk_cell X6.out 4).trans (rfl : _ = some (Value.slice A6 (chP 11).f4.length c6))
                  have q0 := (blk_cell X8.out 0).trans (rfl : _ = some (Value.string ⟨#[]⟩))
                  have q1 := (blk_cell X8.out 1).trans (rfl : _ = some (Value.int .i64 2))
                  have q2 := (blk_cell X8.out 2).trans (rfl : _ = some (Value.bool false))
                  have q3 := (blk_cell X8.out 3).trans (rfl : _ = some (Value.string ⟨#[]⟩))
                  have q4 := (blk_cell X8.out 4).trans (rfl : _ = some (Value.slice A8 1 1))
                  have r0 := (blk_cell X9.out 0).trans (rfl : _ = some (Value.string ⟨#[]⟩))
                  have r1 := (blk_cell X9.out 1).trans (rfl : _ = some (Value.int .i64 2))
                  have r2 := (blk_cell X9.out 2).trans (rfl : _ = some (Value.bool false))
                  have r3 := (blk_cell X9.out 3).trans (rfl : _ = some (Value.string ⟨#[]⟩))
                  have r4 := (blk_cell X9.out 4).trans (rfl : _ = some (Value.slice A (chP 19).f4.length c))
                  go_wp2_with fail
                  clear p0 p1 p2 p3 p4 q0 q1 q2 q3 q4 r0 r1 r2 r3 r4
                  refine (ch_chk 19 (by decide) 3 (by decide +kernel) _ _ _ C9.out LE.out.2.2).mono ?_
                  rintro e W56 ⟨rfl, hb⟩
                  replace X6 := Aside0.mk (blk_below X6.out hb)
                  replace X8 := Aside0.mk (blk_below X8.out hb)
                  replace X9 := Aside0.mk (blk_below X9.out hb)
                  replace C6 := Aside0.mk (Kd.C_below C6.out hb)
                  replace C8 := Aside0.mk (Kd.C_below C8.out hb)
                  replace C9 := Aside0.mk (Kd.C_below C9.out hb)
                  replace BE := Aside0.mk (below_then BE.out BE.out.size hb)
                  clear hb
                  have p0 := (blk_cell X6.out 0).trans (rfl : _ = some (Value.string ⟨#[]⟩))
                  have p1 := (blk_cell X6.out 1).trans (rfl : _ = some (Value.int .i64 2))
                  have p2 := (blk_cell X6.out 2).trans (rfl : _ = some (Value.bool false))
                  have p3 := (blk_cell X6.out 3).trans (rfl : _ = some (Value.string ⟨#[]⟩))
                  have p4 := (blk_cell X6.out 4).trans (rfl : _ = some (Value.slice A6 (chP 11).f4.length c6))
                  have q0 := (blk_cell X8.out 0).trans (rfl : _ = some (Value.string ⟨#[]⟩))
                  have q1 := (blk_cell X8.out 1).trans (rfl : _ = some (Value.int .i64 2))
                  have q2 := (blk_cell X8.out 2).trans (rfl : _ = some (Value.bool false))
                  have q3 := (blk_cell X8.out 3).trans (rfl : _ = some (Value.string ⟨#[]⟩))
                  have q4 := (blk_cell X8.out 4).trans (rfl : _ = some (Value.slice A8 1 1))
                  have r0 := (blk_cell X9.out 0).trans (rfl : _ = some (Value.string ⟨#[]⟩))
                  have r1 := (blk_cell X9.out 1).trans (rfl : _ = some (Value.int .i64 2))
                  have r2 := (blk_cell X9.out 2).trans (rfl : _ = some (Value.bool false))
                  have r3 := (blk_cell X9.out 3).trans (rfl : _ = some (Value.string ⟨#[]⟩))
                  have r4 := (blk_cell X9.out 4).trans (rfl : _ = some (Value.slice A (chP 19).f4.length c))
                  go_wp2_with fail
                  clear p0 p1 p2 p3 p4 q0 q1 q2 q3 q4 r0 r1 r2 r3 r4
                  refine (rep_calls 120 100001 (by decide) _).mono ?_
                  rintro e W57 ⟨rfl, hb⟩
                  replace X6 := Aside0.mk (blk_below X6.out hb)
                  replace X8 := Aside0.mk (blk_below X8.out hb)
                  replace X9 := Aside0.mk (blk_below X9.out hb)
                  replace C6 := Aside0.mk (Kd.C_below C6.out hb)
                  replace C8 := Aside0.mk (Kd.C_below C8.out hb)
                  replace C9 := Aside0.mk (Kd.C_below C9.out hb)
                  replace BE := Aside0.mk (below_then BE.out BE.out.size hb)
                  clear hb
                  have p0 := (blk_cell X6.out 0).trans (rfl : _ = some (Value.string ⟨#[]⟩))
                  have p1 := (blk_cell X6.out 1).trans (rfl : _ = some (Value.int .i64 2))
                  have p2 := (blk_cell X6.out 2).trans (rfl : _ = some (Value.bool false))
                  have p3 := (blk_cell X6.out 3).trans (rfl : _ = some (Value.string ⟨#[]⟩))
                  have p4 := (blk_cell X6.out 4).trans (rfl : _ = some (Value.slice A6 (chP 11).f4.length c6))
                  have q0 := (blk_cell X8.out 0).trans (rfl : _ = some (Value.string ⟨#[]⟩))
                  have q1 := (blk_cell X8.out 1).trans (rfl : _ = some (Value.int .i64 2))
                  have q2 := (blk_cell X8.out 2).trans (rfl : _ = some (Value.bool false))
                  have q3 := (blk_cell X8.out 3).trans (rfl : _ = some (Value.string ⟨#[]⟩))
                  have q4 := (blk_cell X8.out 4).trans (rfl : _ = some (Value.slice A8 1 1))
                  have r0 := (blk_cell X9.out 0).trans (rfl : _ = some (Value.string ⟨#[]⟩))
                  have r1 := (blk_cell X9.out 1).trans (rfl : _ = some (Value.int .i64 2))
                  have r2 := (blk_cell X9.out 2).trans (rfl : _ = some (Value.bool false))
                  have r3 := (blk_cell X9.out 3).trans (rfl : _ = some (Value.string ⟨#[]⟩))
                  have r4 := (blk_cell X9.out 4).trans (rfl : _ = some (Value.slice A (chP 19).f4.length c))
                  go_wp2_with fail
                  clear p0 p1 p2 p3 p4 q0 q1 q2 q3 q4 r0 r1 r2 r3 r4
                  refine (file_x _ _ _).mono ?_
                  rintro e W58 ⟨rfl, hb⟩
                  replace X6 := Aside0.mk (blk_below X6.out hb)
                  replace X8 := Aside0.mk (blk_below X8.out hb)
                  replace X9 := Aside0.mk (blk_below X9.out hb)
                  replace C6 := Aside0.mk (Kd.C_below C6.out hb)
                  replace C8 := Aside0.mk (Kd.C_below C8.out hb)
                  replace C9 := Aside0.mk (Kd.C_below C9.out hb)
                  replace BE := Aside0.mk (below_then BE.out BE.out.size hb)
                  clear hb
                  have p0 := (blk_cell X6.out 0).trans (rfl : _ = some (Value.string ⟨#[]⟩))
                  have p1 := (blk_cell X6.out 1).trans (rfl : _ = some (Value.int .i64 2))
                  have p2 := (blk_cell X6.out 2).trans (rfl : _ = some (Value.bool false))
                  have p3 := (blk_cell X6.out 3).trans (rfl : _ = some (Value.string ⟨#[]⟩))
                  have p4 := (blk_cell X6.out 4).trans (rfl : _ = some (Value.slice A6 (chP 11).f4.length c6))
                  have q0 := (blk_cell X8.out 0).trans (rfl : _ = some (Value.string ⟨#[]⟩))
                  have q1 := (blk_cell X8.out 1).trans (rfl : _ = some (Value.int .i64 2))
                  have q2 := (blk_cell X8.out 2).trans (rfl : _ = some (Value.bool false))
                  have q3 := (blk_cell X8.out 3).trans (rfl : _ = some (Value.string ⟨#[]⟩))
                  have q4 := (blk_cell X8.out 4).trans (rfl : _ = some (Value.slice A8 1 1))
                  have r0 := (blk_cell X9.out 0).trans (rfl : _ = some (Value.string ⟨#[]⟩))
                  have r1 := (blk_cell X9.out 1).trans (rfl : _ = some (Value.int .i64 2))
                  have r2 := (blk_cell X9.out 2).trans (rfl : _ = some (Value.bool false))
                  have r3 := (blk_cell X9.out 3).trans (rfl : _ = some (Value.string ⟨#[]⟩))
                  have r4 := (blk_cell X9.out 4).trans (rfl : _ = some (Value.slice A (chP 19).f4.length c))
                  go_wp2_with fail
                  clear p0 p1 p2 p3 p4 q0 q1 q2 q3 q4 r0 r1 r2 r3 r4
                  refine (big3 _).mono ?_
                  rintro e W59 ⟨rfl, hb⟩
                  replace X6 := Aside0.mk (blk_below X6.out hb)
                  replace X8 := Aside0.mk (blk_below X8.out hb)
                  replace X9 := Aside0.mk (blk_below X9.out hb)
                  replace C6 := Aside0.mk (Kd.C_below C6.out hb)
                  replace C8 := Aside0.mk (Kd.C_below C8.out hb)
                  replace C9 := Aside0.mk (Kd.C_below C9.out hb)
                  replace BE := Aside0.mk (below_then BE.out BE.out.size hb)
                  clear hb
                  have p0 := (blk_cell X6.out 0).trans (rfl : _ = some (Value.string ⟨#[]⟩))
                  have p1 := (blk_cell X6.out 1).trans (rfl : _ = some (Value.int .i64 2))
                  have p2 := (blk_cell X6.out 2).trans (rfl : _ = some (Value.bool false))
                  have p3 := (blk_cell X6.out 3).trans (rfl : _ = some (Value.string ⟨#[]⟩))
                  have p4 := (blk_cell X6.out 4).trans (rfl : _ = some (Value.slice A6 (chP 11).f4.length c6))
                  have q0 := (blk_cell X8.out 0).trans (rfl : _ = some (Value.string ⟨#[]⟩))
                  have q1 := (blk_cell X8.out 1).trans (rfl : _ = some (Value.int .i64 2))
                  have q2 := (blk_cell X8.out 2).trans (rfl : _ = some (Value.bool false))
                  have q3 := (blk_cell X8.out 3).trans (rfl : _ = some (Value.string ⟨#[]⟩))
                  have q4 := (blk_cell X8.out 4).trans (rfl : _ = some (Value.slice A8 1 1))
                  have r0 := (blk_cell X9.out 0).trans (rfl : _ = some (Value.string ⟨#[]⟩))
                  have r1 := (blk_cell X9.out 1).trans (rfl : _ = some (Value.int .i64 2))
                  have r2 := (blk_cell X9.out 2).trans (rfl : _ = some (Value.bool false))
                  have r3 := (blk_cell X9.out 3).trans (rfl : _ = some (Value.string ⟨#[]⟩))
                  have r4 := (blk_cell X9.out 4).trans (rfl : _ = some (Value.slice A (chP 19).f4.length c))
                  go_wp2_with fail
                  clear p0 p1 p2 p3 p4 q0 q1 q2 q3 q4 r0 r1 r2 r3 r4
                  refine (rep_calls 120 100000 (by decide) _).mono ?_
                  rintro e W60 ⟨rfl, hb⟩
                  replace X6 := Aside0.mk (blk_below X6.out hb)
                  replace X8 := Aside0.mk (blk_below X8.out hb)
                  replace X9 := Aside0.mk (blk_below X9.out hb)
                  replace C6 := Aside0.mk (Kd.C_below C6.out hb)
                  replace C8 := Aside0.mk (Kd.C_below C8.out hb)
                  replace C9 := Aside0.mk (Kd.C_below C9.out hb)
                  replace BE := Aside0.mk (below_then BE.out BE.out.size hb)
                  clear hb
                  have p0 := (blk_cell X6.out 0).trans (rfl : _ = some (Value.string ⟨#[]⟩))
                  have p1 := (blk_cell X6.out 1).trans (rfl : _ = some (Value.int .i64 2))
                  have p2 := (blk_cell X6.out 2).trans (rfl : _ = some (Value.bool false))
                  have p3 := (blk_cell X6.out 3).trans (rfl : _ = some (Value.string ⟨#[]⟩))
                  have p4 := (blk_cell X6.out 4).trans (rfl : _ = some (Value.slice A6 (chP 11).f4.length c6))
                  have q0 := (blk_cell X8.out 0).trans (rfl : _ = some (Value.string ⟨#[]⟩))
                  have q1 := (blk_cell X8.out 1).trans (rfl : _ = some (Value.int .i64 2))
                  have q2 := (blk_cell X8.out 2).trans (rfl : _ = some (Value.bool false))
                  have q3 := (blk_cell X8.out 3).trans (rfl : _ = some (Value.string ⟨#[]⟩))
                  have q4 := (blk_cell X8.out 4).trans (rfl : _ = some (Value.slice A8 1 1))
                  have r0 := (blk_cell X9.out 0).trans (rfl : _ = some (Value.string ⟨#[]⟩))
                  have r1 := (blk_cell X9.out 1).trans (rfl : _ = some (Value.int .i64 2))
                  have r2 := (blk_cell X9.out 2).trans (rfl : _ = some (Value.bool false))
                  have r3 := (blk_cell X9.out 3).trans (rfl : _ = some (Value.string ⟨#[]⟩))
                  have r4 := (blk_cell X9.out 4).trans (rfl : _ = some (Value.slice A (chP 19).f4.length c))
                  go_wp2_with fail
                  clear p0 p1 p2 p3 p4 q0 q1 q2 q3 q4 r0 r1 r2 r3 r4
                  refine (file_x _ _ _).mono ?_
                  rintro e W61 ⟨rfl, hb⟩
                  replace X6 := Aside0.mk (blk_below X6.out hb)
                  replace X8 := Aside0.mk (blk_below X8.out hb)
                  replace X9 := Aside0.mk (blk_below X9.out hb)
                  replace C6 := Aside0.mk (Kd.C_below C6.out hb)
                  replace C8 := Aside0.mk (Kd.C_below C8.out hb)
                  replace C9 := Aside0.mk (Kd.C_below C9.out hb)
                  replace BE := Aside0.mk (below_then BE.out BE.out.size hb)
                  clear hb
                  have p0 := (blk_cell X6.out 0).trans (rfl : _ = some (Value.string ⟨#[]⟩))
                  have p1 := (blk_cell X6.out 1).trans (rfl : _ = some (Value.int .i64 2))
                  have p2 := (blk_cell X6.out 2).trans (rfl : _ = some (Value.bool false))
                  have p3 := (blk_cell X6.out 3).trans (rfl : _ = some (Value.string ⟨#[]⟩))
                  have p4 := (blk_cell X6.out 4).trans (rfl : _ = some (Value.slice A6 (chP 11).f4.length c6))
                  have q0 := (blk_cell X8.out 0).trans (rfl : _ = some (Value.string ⟨#[]⟩))
                  have q1 := (blk_cell X8.out 1).trans (rfl : _ = some (Value.int .i64 2))
                  have q2 := (blk_cell X8.out 2).trans (rfl : _ = some (Value.bool false))
                  have q3 := (blk_cell X8.out 3).trans (rfl : _ = some (Value.string ⟨#[]⟩))
                  have q4 := (blk_cell X8.out 4).trans (rfl : _ = some (Value.slice A8 1 1))
                  have r0 := (blk_cell X9.out 0).trans (rfl : _ = some (Value.string ⟨#[]⟩))
                  have r1 := (blk_cell X9.out 1).trans (rfl : _ = some (Value.int .i64 2))
                  have r2 := (blk_cell X9.out 2).trans (rfl : _ = some (Value.bool false))
                  have r3 := (blk_cell X9.out 3).trans (rfl : _ = some (Value.string ⟨#[]⟩))
                  have r4 := (blk_cell X9.out 4).trans (rfl : _ = some (Value.slice A (chP 19).f4.length c))
                  go_wp2_with fail
                  clear p0 p1 p2 p3 p4 q0 q1 q2 q3 q4 r0 r1 r2 r3 r4
                  refine (big0 _).mono ?_
                  rintro e W62 ⟨rfl, hb⟩
                  replace X6 := Aside0.mk (blk_below X6.out hb)
                  replace X8 := Aside0.mk (blk_below X8.out hb)
                  replace X9 := Aside0.mk (blk_below X9.out hb)
                  replace C6 := Aside0.mk (Kd.C_below C6.out hb)
                  replace C8 := Aside0.mk (Kd.C_below C8.out hb)
                  replace C9 := Aside0.mk (Kd.C_below C9.out hb)
                  replace BE := Aside0.mk (below_then BE.out BE.out.size hb)
                  clear hb
                  have p0 := (blk_cell X6.out 0).trans (rfl : _ = some (Value.string ⟨#[]⟩))
                  have p1 := (blk_cell X6.out 1).trans (rfl : _ = some (Value.int .i64 2))
                  have p2 := (blk_cell X6.out 2).trans (rfl : _ = some (Value.bool false))
                  have p3 := (blk_cell X6.out 3).trans (rfl : _ = some (Value.string ⟨#[]⟩))
                  have p4 := (blk_cell X6.out 4).trans (rfl : _ = some (Value.slice A6 (chP 11).f4.length c6))
                  have q0 := (blk_cell X8.out 0).trans (rfl : _ = some (Value.string ⟨#[]⟩))
                  have q1 := (blk_cell X8.out 1).trans (rfl : _ = some (Value.int .i64 2))
                  have q2 := (blk_cell X8.out 2).trans (rfl : _ = some (Value.bool false))
                  have q3 := (blk_cell X8.out 3).trans (rfl : _ = some (Value.string ⟨#[]⟩))
                  have q4 := (blk_cell X8.out 4).trans (rfl : _ = some (Value.slice A8 1 1))
                  have r0 := (blk_cell X9.out 0).trans (rfl : _ = some (Value.string ⟨#[]⟩))
                  have r1 := (blk_cell X9.out 1).trans (rfl : _ = some (Value.int .i64 2))
                  have r2 := (blk_cell X9.out 2).trans (rfl : _ = some (Value.bool false))
                  have r3 := (blk_cell X9.out 3).trans (rfl : _ = some (Value.string ⟨#[]⟩))
                  have r4 := (blk_cell X9.out 4).trans (rfl : _ = some (Value.slice A (chP 19).f4.length c))
                  go_wp2_with fail
                  clear p0 p1 p2 p3 p4 q0 q1 q2 q3 q4 r0 r1 r2 r3 r4
                  refine (dir_x _ _ _ _ _).mono ?_
                  rintro e W63 ⟨rfl, hb⟩
                  replace X6 := Aside0.mk (blk_below X6.out hb)
                  replace X8 := Aside0.mk (blk_below X8.out hb)
                  replace X9 := Aside0.mk (blk_below X9.out hb)
                  replace C6 := Aside0.mk (Kd.C_below C6.out hb)
                  replace C8 := Aside0.mk (Kd.C_below C8.out hb)
                  replace C9 := Aside0.mk (Kd.C_below C9.out hb)
                  replace BE := Aside0.mk (below_then BE.out BE.out.size hb)
                  clear hb
                  have p0 := (blk_cell X6.out 0).trans (rfl : _ = some (Value.string ⟨#[]⟩))
                  have p1 := (blk_cell X6.out 1).trans (rfl : _ = some (Value.int .i64 2))
                  have p2 := (blk_cell X6.out 2).trans (rfl : _ = some (Value.bool false))
                  have p3 := (blk_cell X6.out 3).trans (rfl : _ = some (Value.string ⟨#[]⟩))
                  have p4 := (blk_cell X6.out 4).trans (rfl : _ = some (Value.slice A6 (chP 11).f4.length c6))
                  have q0 := (blk_cell X8.out 0).trans (rfl : _ = some (Value.string ⟨#[]⟩))
                  have q1 := (blk_cell X8.out 1).trans (rfl : _ = some (Value.int .i64 2))
                  have q2 := (blk_cell X8.out 2).trans (rfl : _ = some (Value.bool false))
                  have q3 := (blk_cell X8.out 3).trans (rfl : _ = some (Value.string ⟨#[]⟩))
                  have q4 := (blk_cell X8.out 4).trans (rfl : _ = some (Value.slice A8 1 1))
                  have r0 := (blk_cell X9.out 0).trans (rfl : _ = some (Value.string ⟨#[]⟩))
                  have r1 := (blk_cell X9.out 1).trans (rfl : _ = some (Value.int .i64 2))
                  have r2 := (blk_cell X9.out 2).trans (rfl : _ = some (Value.bool false))
                  have r3 := (blk_cell X9.out 3).trans (rfl : _ = some (Value.string ⟨#[]⟩))
                  have r4 := (blk_cell X9.out 4).trans (rfl : _ = some (Value.slice A (chP 19).f4.length c))
                  go_wp2_with fail
                  clear p0 p1 p2 p3 p4 q0 q1 q2 q3 q4 r0 r1 r2 r3 r4
                  obtain ⟨W64, hW⟩ : ∃ W64, W63.alloc (.cells #[.string ⟨#[97]⟩, .int .i64 2, .bool false, .string ⟨#[]⟩, .slice none 0 0] 24) = W64 := ⟨_, rfl⟩
                  have hb := Aside0.mk (show Below W63.heap.size W63 W64 from by rw [← hW]; exact below_alloc (Below.refl _ _) _)
                  replace X6 := Aside0.mk (blk_below X6.out hb.out)
                  replace X8 := Aside0.mk (blk_below X8.out hb.out)
                  replace X9 := Aside0.mk (blk_below X9.out hb.out)
                  replace C6 := Aside0.mk (Kd.C_below C6.out hb.out)
                  replace C8 := Aside0.mk (Kd.C_below C8.out hb.out)
                  replace C9 := Aside0.mk (Kd.C_below C9.out hb.out)
                  have CG1 := Aside0.mk (show Kd.C k24 W64 (some ⟨W63.heap.size, 0, none⟩) 1 [nAa] from C_block (T := 24) (cs := [.string ⟨#[97]⟩, .int .i64 2, .bool false, .string ⟨#[]⟩, .slice none 0 0]) (by rw [← hW]; exact heap_alloc_new _ _) (Reps.c5 (mk_leaf W64 _ _ _ _) (Reps.none _ _)) (by decide))
                  replace BE := Aside0.mk (below_then BE.out BE.out.size hb.out)
                  try rw [hW]
                  clear hW hb
                  refine (dir_x _ _ _ _ _).mono ?_
                  rintro e W65 ⟨rfl, hb⟩
                  replace X6 := Aside0.mk (blk_below X6.out hb)
                  replace X8 := Aside0.mk (blk_below X8.out hb)
                  replace X9 := Aside0.mk (blk_below X9.out hb)
                  replace C6 := Aside0.mk (Kd.C_below C6.out hb)
                  replace C8 := Aside0.mk (Kd.C_below C8.out hb)
                  replace C9 := Aside0.mk (Kd.C_below C9.out hb)
                  replace CG1 := Aside0.mk (Kd.C_below CG1.out hb)
                  replace BE := Aside0.mk (below_then BE.out BE.out.size hb)
                  clear hb
                  have p0 := (blk_cell X6.out 0).trans (rfl : _ = some (Value.string ⟨#[]⟩))
                  have p1 := (blk_cell X6.out 1).trans (rfl : _ = some (Value.int .i64 2))
                  have p2 := (blk_cell X6.out 2).trans (rfl : _ = some (Value.bool false))
                  have p3 := (blk_cell X6.out 3).trans (rfl : _ = some (Value.string ⟨#[]⟩))
                  have p4 := (blk_cell X6.out 4).trans (rfl : _ = some (Value.slice A6 (chP 11).f4.length c6))
                  have q0 := (blk_cell X8.out 0).trans (rfl : _ = some (Value.string ⟨#[]⟩))
                  have q1 := (blk_cell X8.out 1).trans (rfl : _ = some (Value.int .i64 2))
                  have q2 := (blk_cell X8.out 2).trans (rfl : _ = some (Value.bool false))
                  have q3 := (blk_cell X8.out 3).trans (rfl : _ = some (Value.string ⟨#[]⟩))
                  have q4 := (blk_cell X8.out 4).trans (rfl : _ = some (Value.slice A8 1 1))
                  have r0 := (blk_cell X9.out 0).trans (rfl : _ = some (Value.string ⟨#[]⟩))
                  have r1 := (blk_cell X9.out 1).trans (rfl : _ = some (Value.int .i64 2))
                  have r2 := (blk_cell X9.out 2).trans (rfl : _ = some (Value.bool false))
                  have r3 := (blk_cell X9.out 3).trans (rfl : _ = some (Value.string ⟨#[]⟩))
                  have r4 := (blk_cell X9.out 4).trans (rfl : _ = some (Value.slice A (chP 19).f4.length c))
                  go_wp2_with fail
                  clear p0 p1 p2 p3 p4 q0 q1 q2 q3 q4 r0 r1 r2 r3 r4
                  obtain ⟨Wa, hW⟩ : ∃ Wa, W65.alloc (.cells #[] 24) = Wa := ⟨_, rfl⟩
                  have hb := Aside0.mk (show Below W65.heap.size W65 Wa from by rw [← hW]; exact below_alloc (Below.refl _ _) _)
                  replace X6 := Aside0.mk (blk_below X6.out hb.out)
                  replace X8 := Aside0.mk (blk_below X8.out hb.out)
                  replace X9 := Aside0.mk (blk_below X9.out hb.out)
                  replace C6 := Aside0.mk (Kd.C_below C6.out hb.out)
                  replace C8 := Aside0.mk (Kd.C_below C8.out hb.out)
                  replace C9 := Aside0.mk (Kd.C_below C9.out hb.out)
                  replace CG1 := Aside0.mk (Kd.C_below CG1.out hb.out)
                  have HSZ := Aside0.mk (show Wa.heap.size = W65.heap.size + 1 from by rw [← hW, World.size_alloc])
                  replace BE := Aside0.mk (below_then BE.out BE.out.size hb.out)
                  rw [hW]
                  clear hW hb
                  obtain ⟨Wb, hW⟩ : ∃ Wb, Wa.alloc (.cells #[.string ⟨#[97]⟩, .int .i64 2, .bool false, .string ⟨#[]⟩, .slice (some ⟨W65.heap.size, 0, none⟩) 0 0] 24) = Wb := ⟨_, rfl⟩
                  have hb := Aside0.mk (show Below Wa.heap.size Wa Wb from by rw [← hW]; exact below_alloc (Below.refl _ _) _)
                  replace X6 := Aside0.mk (blk_below X6.out hb.out)
                  replace X8 := Aside0.mk (blk_below X8.out hb.out)
                  replace X9 := Aside0.mk (blk_below X9.out hb.out)
                  replace C6 := Aside0.mk (Kd.C_below C6.out hb.out)
                  replace C8 := Aside0.mk (Kd.C_below C8.out hb.out)
                  replace C9 := Aside0.mk (Kd.C_below C9.out hb.out)
                  replace CG1 := Aside0.mk (Kd.C_below CG1.out hb.out)
                  have CG2 := Aside0.mk (c_G2 (w := Wb) (b := Wa.heap.size) (A := ⟨W65.heap.size, 0, none⟩) (by rw [← hW]; exact heap_alloc_new _ _))
                  rw [HSZ.out] at CG2
                  clear HSZ
                  replace BE := Aside0.mk (below_then BE.out BE.out.size hb.out)
                  rw [hW]
                  clear hW hb
                  refine (dir_x _ _ _ _ _).mono ?_
                  rintro e W66 ⟨rfl, hb⟩
                  replace X6 := Aside0.mk (blk_below X6.out hb)
                  replace X8 := Aside0.mk (blk_below X8.out hb)
                  replace X9 := Aside0.mk (blk_below X9.out hb)
                  replace C6 := Aside0.mk (Kd.C_below C6.out hb)
                  replace C8 := Aside0.mk (Kd.C_below C8.out hb)
                  replace C9 := Aside0.mk (Kd.C_below C9.out hb)
                  replace CG1 := Aside0.mk (Kd.C_below CG1.out hb)
                  replace CG2 := Aside0.mk (Kd.C_below CG2.out hb)
                  replace BE := Aside0.mk (below_then BE.out BE.out.size hb)
                  clear hb
                  have p0 := (blk_cell X6.out 0).trans (rfl : _ = some (Value.string ⟨#[]⟩))
                  have p1 := (blk_cell X6.out 1).trans (rfl : _ = some (Value.int .i64 2))
                  have p2 := (blk_cell X6.out 2).trans (rfl : _ = some (Value.bool false))
                  have p3 := (blk_cell X6.out 3).trans (rfl : _ = some (Value.string ⟨#[]⟩))
                  have p4 := (blk_cell X6.out 4).trans (rfl : _ = some (Value.slice A6 (chP 11).f4.length c6))
                  have q0 := (blk_cell X8.out 0).trans (rfl : _ = some (Value.string ⟨#[]⟩))
                  have q1 := (blk_cell X8.out 1).trans (rfl : _ = some (Value.int .i64 2))
                  have q2 := (blk_cell X8.out 2).trans (rfl : _ = some (Value.bool false))
                  have q3 := (blk_cell X8.out 3).trans (rfl : _ = some (Value.string ⟨#[]⟩))
                  have q4 := (blk_cell X8.out 4).trans (rfl : _ = some (Value.slice A8 1 1))
                  have r0 := (blk_cell X9.out 0).trans (rfl : _ = some (Value.string ⟨#[]⟩))
                  have r1 := (blk_cell X9.out 1).trans (rfl : _ = some (Value.int .i64 2))
                  have r2 := (blk_cell X9.out 2).trans (rfl : _ = some (Value.bool false))
                  have r3 := (blk_cell X9.out 3).trans (rfl : _ = some (Value.string ⟨#[]⟩))
                  have r4 := (blk_cell X9.out 4).trans (rfl : _ = some (Value.slice A (chP 19).f4.length c))
                  go_wp2_with fail
                  clear p0 p1 p2 p3 p4 q0 q1 q2 q3 q4 r0 r1 r2 r3 r4
                  refine (same_aa _ _ _ CG1.out CG2.out).mono ?_
                  rintro e W67 ⟨rfl, hb⟩
                  replace X6 := Aside0.mk (blk_below X6.out hb)
                  replace X8 := Aside0.mk (blk_below X8.out hb)
                  replace X9 := Aside0.mk (blk_below X9.out hb)
                  replace C6 := Aside0.mk (Kd.C_below C6.out hb)
                  replace C8 := Aside0.mk (Kd.C_below C8.out hb)
                  replace C9 := Aside0.mk (Kd.C_below C9.out hb)
                  replace CG1 := Aside0.mk (Kd.C_below CG1.out hb)
                  replace CG2 := Aside0.mk (Kd.C_below CG2.out hb)
                  replace BE := Aside0.mk (below_then BE.out BE.out.size hb)
                  clear hb
                  have p0 := (blk_cell X6.out 0).trans (rfl : _ = some (Value.string ⟨#[]⟩))
                  have p1 := (blk_cell X6.out 1).trans (rfl : _ = some (Value.int .i64 2))
                  have p2 := (blk_cell X6.out 2).trans (rfl : _ = some (Value.bool false))
                  have p3 := (blk_cell X6.out 3).trans (rfl : _ = some (Value.string ⟨#[]⟩))
                  have p4 := (blk_cell X6.out 4).trans (rfl : _ = some (Value.slice A6 (chP 11).f4.length c6))
                  have q0 := (blk_cell X8.out 0).trans (rfl : _ = some (Value.string ⟨#[]⟩))
                  have q1 := (blk_cell X8.out 1).trans (rfl : _ = some (Value.int .i64 2))
                  have q2 := (blk_cell X8.out 2).trans (rfl : _ = some (Value.bool false))
                  have q3 := (blk_cell X8.out 3).trans (rfl : _ = some (Value.string ⟨#[]⟩))
                  have q4 := (blk_cell X8.out 4).trans (rfl : _ = some (Value.slice A8 1 1))
                  have r0 := (blk_cell X9.out 0).trans (rfl : _ = some (Value.string ⟨#[]⟩))
                  have r1 := (blk_cell X9.out 1).trans (rfl : _ = some (Value.int .i64 2))
                  have r2 := (blk_cell X9.out 2).trans (rfl : _ = some (Value.bool false))
                  have r3 := (blk_cell X9.out 3).trans (rfl : _ = some (Value.string ⟨#[]⟩))
                  have r4 := (blk_cell X9.out 4).trans (rfl : _ = some (Value.slice A (chP 19).f4.length c))
                  clear CG1 CG2
                  go_wp2_with fail
                  clear p0 p1 p2 p3 p4 q0 q1 q2 q3 q4 r0 r1 r2 r3 r4
                  refine (file_x _ _ _).mono ?_
                  rintro e W68 ⟨rfl, hb⟩
                  replace X6 := Aside0.mk (blk_below X6.out hb)
                  replace X8 := Aside0.mk (blk_below X8.out hb)
                  replace X9 := Aside0.mk (blk_below X9.out hb)
                  replace C6 := Aside0.mk (Kd.C_below C6.out hb)
                  replace C8 := Aside0.mk (Kd.C_below C8.out hb)
                  replace C9 := Aside0.mk (Kd.C_below C9.out hb)
                  replace BE := Aside0.mk (below_then BE.out BE.out.size hb)
                  clear hb
                  have p0 := (blk_cell X6.out 0).trans (rfl : _ = some (Value.string ⟨#[]⟩))
                  have p1 := (blk_cell X6.out 1).trans (rfl : _ = some (Value.int .i64 2))
                  have p2 := (blk_cell X6.out 2).trans (rfl : _ = some (Value.bool false))
                  have p3 := (blk_cell X6.out 3).trans (rfl : _ = some (Value.string ⟨#[]⟩))
                  have p4 := (blk_cell X6.out 4).trans (rfl : _ = some (Value.slice A6 (chP 11).f4.length c6))
                  have q0 := (blk_cell X8.out 0).trans (rfl : _ = some (Value.string ⟨#[]⟩))
                  have q1 := (blk_cell X8.out 1).trans (rfl : _ = some (Value.int .i64 2))
                  have q2 := (blk_cell X8.out 2).trans (rfl : _ = some (Value.bool false))
                  have q3 := (blk_cell X8.out 3).trans (rfl : _ = some (Value.string ⟨#[]⟩))
                  have q4 := (blk_cell X8.out 4).trans (rfl : _ = some (Value.slice A8 1 1))
                  have r0 := (blk_cell X9.out 0).trans (rfl : _ = some (Value.string ⟨#[]⟩))
                  have r1 := (blk_cell X9.out 1).trans (rfl : _ = some (Value.int .i64 2))
                  have r2 := (blk_cell X9.out 2).trans (rfl : _ = some (Value.bool false))
                  have r3 := (blk_cell X9.out 3).trans (rfl : _ = some (Value.string ⟨#[]⟩))
                  have r4 := (blk_cell X9.out 4).trans (rfl : _ = some (Value.slice A (chP 19).f4.length c))
                  go_wp2_with fail
                  clear p0 p1 p2 p3 p4 q0 q1 q2 q3 q4 r0 r1 r2 r3 r4
                  refine (each_leaf _).mono ?_
                  rintro e W69 ⟨Ae2, ce2, rfl, hb⟩
                  replace X6 := Aside0.mk (blk_below X6.out hb)
                  replace X8 := Aside0.mk (blk_below X8.out hb)
                  replace X9 := Aside0.mk (blk_below X9.out hb)
                  replace C6 := Aside0.mk (Kd.C_below C6.out hb)
                  replace C8 := Aside0.mk (Kd.C_below C8.out hb)
                  replace C9 := Aside0.mk (Kd.C_below C9.out hb)
                  replace BE := Aside0.mk (below_then BE.out BE.out.size hb)
                  clear hb
                  have p0 := (blk_cell X6.out 0).trans (rfl : _ = some (Value.string ⟨#[]⟩))
                  have p1 := (blk_cell X6.out 1).trans (rfl : _ = some (Value.int .i64 2))
                  have p2 := (blk_cell X6.out 2).trans (rfl : _ = some (Value.bool false))
                  have p3 := (blk_cell X6.out 3).trans (rfl : _ = some (Value.string ⟨#[]⟩))
                  have p4 := (blk_cell X6.out 4).trans (rfl : _ = some (Value.slice A6 (chP 11).f4.length c6))
                  have q0 := (blk_cell X8.out 0).trans (rfl : _ = some (Value.string ⟨#[]⟩))
                  have q1 := (blk_cell X8.out 1).trans (rfl : _ = some (Value.int .i64 2))
                  have q2 := (blk_cell X8.out 2).trans (rfl : _ = some (Value.bool false))
                  have q3 := (blk_cell X8.out 3).trans (rfl : _ = some (Value.string ⟨#[]⟩))
                  have q4 := (blk_cell X8.out 4).trans (rfl : _ = some (Value.slice A8 1 1))
                  have r0 := (blk_cell X9.out 0).trans (rfl : _ = some (Value.string ⟨#[]⟩))
                  have r1 := (blk_cell X9.out 1).trans (rfl : _ = some (Value.int .i64 2))
                  have r2 := (blk_cell X9.out 2).trans (rfl : _ = some (Value.bool false))
                  have r3 := (blk_cell X9.out 3).trans (rfl : _ = some (Value.string ⟨#[]⟩))
                  have r4 := (blk_cell X9.out 4).trans (rfl : _ = some (Value.slice A (chP 19).f4.length c))
                  go_wp2_with fail
                  clear p0 p1 p2 p3 p4 q0 q1 q2 q3 q4 r0 r1 r2 r3 r4
                  refine (texts_nil _ _ _).mono ?_
                  rintro e W70 ⟨rfl, hb⟩
                  replace X6 := Aside0.mk (blk_below X6.out hb)
                  replace X8 := Aside0.mk (blk_below X8.out hb)
                  replace X9 := Aside0.mk (blk_below X9.out hb)
                  replace C6 := Aside0.mk (Kd.C_below C6.out hb)
                  replace C8 := Aside0.mk (Kd.C_below C8.out hb)
                  replace C9 := Aside0.mk (Kd.C_below C9.out hb)
                  replace BE := Aside0.mk (below_then BE.out BE.out.size hb)
                  clear hb
                  have p0 := (blk_cell X6.out 0).trans (rfl : _ = some (Value.string ⟨#[]⟩))
                  have p1 := (blk_cell X6.out 1).trans (rfl : _ = some (Value.int .i64 2))
                  have p2 := (blk_cell X6.out 2).trans (rfl : _ = some (Value.bool false))
                  have p3 := (blk_cell X6.out 3).trans (rfl : _ = some (Value.string ⟨#[]⟩))
                  have p4 := (blk_cell X6.out 4).trans (rfl : _ = some (Value.slice A6 (chP 11).f4.length c6))
                  have q0 := (blk_cell X8.out 0).trans (rfl : _ = some (Value.string ⟨#[]⟩))
                  have q1 := (blk_cell X8.out 1).trans (rfl : _ = some (Value.int .i64 2))
                  have q2 := (blk_cell X8.out 2).trans (rfl : _ = some (Value.bool false))
                  have q3 := (blk_cell X8.out 3).trans (rfl : _ = some (Value.string ⟨#[]⟩))
                  have q4 := (blk_cell X8.out 4).trans (rfl : _ = some (Value.slice A8 1 1))
                  have r0 := (blk_cell X9.out 0).trans (rfl : _ = some (Value.string ⟨#[]⟩))
                  have r1 := (blk_cell X9.out 1).trans (rfl : _ = some (Value.int .i64 2))
                  have r2 := (blk_cell X9.out 2).trans (rfl : _ = some (Value.bool false))
                  have r3 := (blk_cell X9.out 3).trans (rfl : _ = some (Value.string ⟨#[]⟩))
                  have r4 := (blk_cell X9.out 4).trans (rfl : _ = some (Value.slice A (chP 19).f4.length c))
                  go_wp2_with fail
                  go_ret
                  exact ⟨rfl, BE.out⟩
end Go.Proofs.YtalljcjignaafaaDoor.PB

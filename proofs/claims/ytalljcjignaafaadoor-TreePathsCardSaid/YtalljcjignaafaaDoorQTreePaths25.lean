import Derived.Deep.RegionHeld3
import Derived.Outline
import Derived.Test.YtalljcjignaafaaDoorQTreePaths23
import Derived.Test.YtalljcjignaafaaDoorQTreePaths24
namespace Go.Proofs.YtalljcjignaafaaDoor.PB
open Go Go.RowKit Go.Proofs.YtalljcjignaafaaDoor Go.Proofs.YtalljcjignaafaaDoorW.PrintWords Go.Proofs.YtalljcjignaafaaDoorW.PrintLast Go.Proofs.YtalljcjignaafaaDoorW.PrintMore
set_option linter.unusedVariables false
set_option linter.unusedSimpArgs false
theorem each_C (t : Tree) (hf : Fit t) (hl : (eachP t).length ≤ 8796093022200) (A : Option Addr) (c : Nat) (w : World) (hC : Kd.C k24 w A t.f4.length t.f4) (hc : t.f4.length ≤ c) :
    Calls Tryd.prog 10 #[.agg #[.string t.f0, .int .i64 t.f1, .bool t.f2, .string t.f3, .slice A t.f4.length c]] w fun e w' => ∃ Av cv, e = .returned (.slice Av (eachP t).length cv) ∧ (Kd.C Kd.string w' Av (eachP t).length (eachP t) ∧ (eachP t).length ≤ cv) ∧ Below w.heap.size w w' := by
  cases t
  refine (tree_Each.calls _ _ _ _ A c _ _ w hC hc (if_pos ⟨hf, hl⟩)).mono ?_
  rintro e w' ⟨v, rfl, hr, hb⟩
  obtain ⟨Av, cv, rfl, h1, h2⟩ := Kd.R_reads hr
  exact ⟨Av, cv, rfl, ⟨h2, h1⟩, hb⟩
theorem str_at {w : World} {A : Option Addr} {n : Nat} {xs : List ByteArray} (h : Kd.C Kd.string w A n xs) (k : Nat) (hk : k < xs.length) : ∃ ad, A = some ad ∧ w.cell? (ad.add k) = some (.string xs[k]) := by
  have hn := Kd.C_len h
  obtain ⟨ad, e, hc⟩ := Kd.at_string h (k : Int) (by omega) (by omega)
  refine ⟨ad, e, ?_⟩
  rw [Int.toNat_natCast] at hc
  rw [hc]
  congr 2
  unfold rdOf
  rw [Int.toNat_natCast, List.getD_eq_getElem?_getD, List.getElem?_eq_getElem hk]
  rfl
theorem splitP_len (q : ByteArray) : (splitP q).length ≤ q.size + 1 := by
  have h1 := splitL_size q.data.toList
  rw [← splitP_list, List.length_map] at h1
  have h3 : q.data.toList.length = q.size := rfl
  omega
theorem deep6 (t : Tree) (hf : Fit t) (hd : depthP t ≤ 12) (A : Option Addr) (c : Nat) (w : World) (hC : Kd.C k24 w A t.f4.length t.f4) (hc : t.f4.length ≤ c) :
    Calls Tryd.prog 13 #[.agg #[.string t.f0, .int .i64 t.f1, .bool t.f2, .string t.f3, .slice A t.f4.length c]] w fun e w' => e = .returned (.int .i64 (depthP t : Nat)) ∧ Below w.heap.size w w' := by
  have h := deep_calls t hf A c w hC hc
  rwa [Nat.min_eq_right (by omega)] at h
theorem keep6 {w wr W : World} {b : Tree} {As : Option Addr} {cs k : Nat} {ad : Addr} {q : ByteArray} (hn : wr.heap[w.heap.size]? = some (nodeCells b As cs)) (hq : wr.cell? (ad.add k) = some (.string q)) (h : Below wr.heap.size wr W) :
    W.cell? ⟨w.heap.size, 0, none⟩ = some (.string b.f0) ∧ W.cell? ⟨w.heap.size, 1, none⟩ = some (.int .i64 b.f1) ∧ W.cell? ⟨w.heap.size, 2, none⟩ = some (.bool b.f2) ∧ W.cell? ⟨w.heap.size, 3, none⟩ = some (.string b.f3) ∧ W.cell? ⟨w.heap.size, 4, none⟩ = some (.slice As b.f4.length cs) ∧ W.cell? (ad.add k) = some (.string q) := by
  have h3 := blk_below hn h
  exact ⟨(blk_cell h3 0).trans rfl, (blk_cell h3 1).trans rfl, (blk_cell h3 2).trans rfl, (blk_cell h3 3).trans rfl, (blk_cell h3 4).trans rfl, pw_cell_below h hq⟩
set_option maxRecDepth 100000 in
set_option maxHeartbeats 4000000 in
theorem paths_any (t : Tree) (hf : Fit t) (A : Option Addr) (c : Nat) (w : World) (hC : Kd.C k24 w A t.f4.length t.f4) (hc : t.f4.length ≤ c) (hm : ∃ m, w.cell? ⟨0, 0, none⟩ = some (.int .i64 m)) :
    Calls Tryd.prog 4 #[.agg #[.string t.f0, .int .i64 t.f1, .bool t.f2, .string t.f3, .slice A t.f4.length c]] w fun e w' => e = .returned (.bool true) ∧ Below w.heap.size w w' := by
  have hu := Tryd.underlying24
  have HS := Aside0.mk (fun W (h : Below w.heap.size w W) => small_any t hf A c W (Kd.C_below hC h) hc)
  have FS := Aside0.mk (And.intro (bare_fit _ (small_fit t hf)) (lim_ok _ (bare_lim _ (small_lim t))))
  have HM := Aside0.mk (fun W (h : Below w.heap.size w W) => show ∃ m, W.cell? ⟨0, 0, none⟩ = some (.int .i64 m) from hm.imp fun m h1 => pw_cell_below h h1)
  clear hC hc hm
  generalize smallP t = s at *
  go_enter Tryd.func4, Tryd.ntmps4
  go_wp2_with fail
  have N0 := Aside0.mk (heap_alloc_new w (.cells #[.string t.f0, .int .i64 t.f1, .bool t.f2, .string t.f3, .slice A t.f4.length c] 24))
  have B0 := Aside0.mk (below_alloc (Below.refl _ w) (.cells #[.string t.f0, .int .i64 t.f1, .bool t.f2, .string t.f3, .slice A t.f4.length c] 24))
  refine (works_any _).mono ?_
  rintro e w1 ⟨rfl, hb⟩
  have N1 := Aside0.mk (blk_below N0.out hb)
  have B1 := Aside0.mk (below_then B0.out B0.out.size hb)
  clear hb N0 B0
  have z0 := (blk_cell N1.out 0).trans (rfl : _ = some (Value.string t.f0))
  have z1 := (blk_cell N1.out 1).trans (rfl : _ = some (Value.int .i64 t.f1))
  have z2 := (blk_cell N1.out 2).trans (rfl : _ = some (Value.bool t.f2))
  have z3 := (blk_cell N1.out 3).trans (rfl : _ = some (Value.string t.f3))
  have z4 := (blk_cell N1.out 4).trans (rfl : _ = some (Value.slice A t.f4.length c))
  go_wp2_with fail
  have LW1 := Aside0.mk (blk_lt N1.out)
  refine (HS.out _ B1.out).mono ?_
  rintro e w2 ⟨v4, rfl, hr, hb⟩
  obtain ⟨As, cs, rfl⟩ := Kd.R_slice hr
  have hfoot := R_foot hr
  have CS := Aside0.mk (And.intro (show s.f4.length ≤ cs from by have := hfoot.1; have := hfoot.2.1; omega) hfoot.2.2)
  have N2 := Aside0.mk (blk_below N1.out hb)
  have B2 := Aside0.mk (below_then B1.out B1.out.size hb)
  clear hb N1 z0 z1 z2 z3 z4 hr hfoot
  have z0 := (blk_cell N2.out 0).trans (rfl : _ = some (Value.string t.f0))
  have z1 := (blk_cell N2.out 1).trans (rfl : _ = some (Value.int .i64 t.f1))
  have z2 := (blk_cell N2.out 2).trans (rfl : _ = some (Value.bool t.f2))
  have z3 := (blk_cell N2.out 3).trans (rfl : _ = some (Value.string t.f3))
  have z4 := (blk_cell N2.out 4).trans (rfl : _ = some (Value.slice A t.f4.length c))
  have y0 := blk_nofreeze N2.out 0
  have y1 := blk_nofreeze N2.out 1
  have y2 := blk_nofreeze N2.out 2
  have y3 := blk_nofreeze N2.out 3
  have y4 := blk_nofreeze N2.out 4
  have HW3 := Aside0.mk (show ((put5 w2 w.heap.size (.string s.f0) (.int .i64 s.f1) (.bool s.f2) (.string s.f3) (.slice As s.f4.length cs)).setCell ⟨w.heap.size, 0, none⟩ (.string ⟨#[]⟩)).heap[w.heap.size]? = some (nodeCells (bareP s) As cs) ∧ Below w.heap.size w ((put5 w2 w.heap.size (.string s.f0) (.int .i64 s.f1) (.bool s.f2) (.string s.f3) (.slice As s.f4.length cs)).setCell ⟨w.heap.size, 0, none⟩ (.string ⟨#[]⟩)) ∧ Kd.C k24 ((put5 w2 w.heap.size (.string s.f0) (.int .i64 s.f1) (.bool s.f2) (.string s.f3) (.slice As s.f4.length cs)).setCell ⟨w.heap.size, 0, none⟩ (.string ⟨#[]⟩)) As (bareP s).f4.length (bareP s).f4 ∧ (bareP s).f4.length ≤ cs from by
    refine ⟨(blk_store (l := [_, _, _, _, _]) (put5_at N2.out _ _ _ _ _) 0 _).trans rfl, (put5_below B2.out (Nat.le_refl _) _ _ _ _ _).setCell (p := ⟨w.heap.size, 0, none⟩) (Nat.le_refl _) _, ?_, CS.out.1⟩
    exact Kd.F_now (Kd.F_step CS.out.2 (fun k hk hlt => (Below.heap_setCell _ ⟨w.heap.size, 0, none⟩ _ k (by have := hk.1; have := LW1.out; show k ≠ w.heap.size; omega)).trans (put5_other (by have := hk.1; have := LW1.out; omega) _ _ _ _ _))))
  go_upto_region 5 with (fail)
  clear N2 B2 CS HS z0 z1 z2 z3 z4 y0 y1 y2 y3 y4 B1 LW1
  unfold put5 at HW3
  generalize ((((((w2.setCell ⟨w.heap.size, 0, none⟩ (.string s.f0)).setCell ⟨w.heap.size, 1, none⟩ (.int .i64 s.f1)).setCell ⟨w.heap.size, 2, none⟩ (.bool s.f2)).setCell ⟨w.heap.size, 3, none⟩ (.string s.f3)).setCell ⟨w.heap.size, 4, none⟩ (.slice As s.f4.length cs)).setCell ⟨w.heap.size, 0, none⟩ (.string ⟨#[]⟩)) = W3 at HW3 ⊢
  have N3 := Aside0.mk HW3.out.1
  have B3 := Aside0.mk HW3.out.2.1
  have C3 := Aside0.mk (And.intro HW3.out.2.2.2 HW3.out.2.2.1)
  clear HW3
  generalize bareP s = b at *
  have z0 := (blk_cell N3.out 0).trans (rfl : _ = some (Value.string b.f0))
  have z1 := (blk_cell N3.out 1).trans (rfl : _ = some (Value.int .i64 b.f1))
  have z2 := (blk_cell N3.out 2).trans (rfl : _ = some (Value.bool b.f2))
  have z3 := (blk_cell N3.out 3).trans (rfl : _ = some (Value.string b.f3))
  have z4 := (blk_cell N3.out 4).trans (rfl : _ = some (Value.slice As b.f4.length cs))
  go_wp2_with fail
  refine (chk_calls b FS.out.1 FS.out.2 As cs W3 C3.out.2 C3.out.1).mono ?_
  rintro e W4 ⟨rfl, hb⟩
  have N4 := Aside0.mk (blk_below N3.out hb)
  have B4 := Aside0.mk (below_then B3.out B3.out.size hb)
  have C4 := Aside0.mk (And.intro C3.out.1 (Kd.C_below C3.out.2 hb))
  clear hb z0 z1 z2 z3 z4 N3 B3 C3
  by_cases hck : checkP b = 0
  · obtain ⟨hd, -, hm, hn, hsb⟩ := check6_ok b hck
    have HOK := Aside0.mk (And.intro hd (And.intro hm (And.intro hn hsb)))
    have hl := each_len b hm hd
    have hl2 : (eachP b).length ≤ 2000 := by omega
    have HP := Aside0.mk (fun q hq => path_ok b FS.out.1 hm hd q hq)
    have HR := Aside0.mk (show ∀ (i : Nat) (h0 : i < (eachP b).length) (h : i + 1 < (eachP b).length), risesP (splitP (eachP b)[i]) (splitP (eachP b)[i + 1]) = true from fun i _ h => each_rises b FS.out.1 hm hd i h)
    have HSR := Aside0.mk (same6_refl b FS.out.1 hm hd)
    have HZ := Aside0.mk (show sizeN b + sizeB b < 4611686018427387904 from by omega)
    have HEL := Aside0.mk hl
    rw [hck]
    have z0 := (blk_cell N4.out 0).trans (rfl : _ = some (Value.string b.f0))
    have z1 := (blk_cell N4.out 1).trans (rfl : _ = some (Value.int .i64 b.f1))
    have z2 := (blk_cell N4.out 2).trans (rfl : _ = some (Value.bool b.f2))
    have z3 := (blk_cell N4.out 3).trans (rfl : _ = some (Value.string b.f3))
    have z4 := (blk_cell N4.out 4).trans (rfl : _ = some (Value.slice As b.f4.length cs))
    clear hck hd hm hn hsb hl
    go_wp2_with fail
    refine (each_C b FS.out.1 (by omega) As cs W4 C4.out.2 C4.out.1).mono ?_
    rintro e W5 ⟨Al, cl, rfl, hL, hb⟩
    have LL := Aside0.mk hL
    have N5 := Aside0.mk (blk_below N4.out hb)
    have B5 := Aside0.mk (below_then B4.out B4.out.size hb)
    have C5 := Aside0.mk (And.intro C4.out.1 (Kd.C_below C4.out.2 hb))
    clear hb hL z0 z1 z2 z3 z4 N4 B4 C4
    have z0 := (blk_cell N5.out 0).trans (rfl : _ = some (Value.string b.f0))
    have z1 := (blk_cell N5.out 1).trans (rfl : _ = some (Value.int .i64 b.f1))
    have z2 := (blk_cell N5.out 2).trans (rfl : _ = some (Value.bool b.f2))
    have z3 := (blk_cell N5.out 3).trans (rfl : _ = some (Value.string b.f3))
    have z4 := (blk_cell N5.out 4).trans (rfl : _ = some (Value.slice As b.f4.length cs))
    go_wp2_with fail
    refine (size_calls b FS.out.1 HOK.out.2.1 HOK.out.1 HZ.out As cs W5 C5.out.2 C5.out.1).mono ?_
    rintro e W6 ⟨rfl, hb⟩
    have L6 := Aside0.mk (And.intro (Kd.C_below LL.out.1 hb) LL.out.2)
    have N6 := Aside0.mk (blk_below N5.out hb)
    have B6 := Aside0.mk (below_then B5.out B5.out.size hb)
    have C6 := Aside0.mk (And.intro C5.out.1 (Kd.C_below C5.out.2 hb))
    clear hb z0 z1 z2 z3 z4 N5 B5 C5 LL
    have hw1 : wrap64 (((sizeN b : Nat) : Int) - 1) = (((eachP b).length : Nat) : Int) := by have := HEL.out; unfold wrap64; omega
    generalize eachP b = L at *
    go_wp2_with fail
    clear hw1
    go_loopw [6] (fun i wr => ∃ k : Nat, k ≤ L.length ∧ i = .int .i64 k ∧ Aside0 (Below W6.heap.size W6 wr)) (fun i _ => L.length - (intOf i).toNat)
    case atStart => exact ⟨0, Nat.zero_le _, rfl, ⟨Below.refl _ _⟩⟩
    case round =>
      obtain ⟨k, hk, rfl, HB⟩ := hrel
      have NR := Aside0.mk (blk_below N6.out HB.out)
      have CR := Aside0.mk (And.intro C6.out.1 (Kd.C_below C6.out.2 HB.out))
      have LR := Aside0.mk (And.intro (Kd.C_below L6.out.1 HB.out) L6.out.2)
      have BR := Aside0.mk (below_then B6.out B6.out.size HB.out)
      by_cases hlt : k < L.length
      · obtain ⟨ad, rfl, hlk⟩ := str_at LR.out.1 k hlt
        have HQ := Aside0.mk (HP.out _ (List.getElem_mem hlt))
        have HLK := Aside0.mk hlk
        have HIX := Aside0.mk (show ∀ j, j + 1 = k → ∃ hj : j < L.length, risesP (splitP L[j]) (splitP L[k]) = true ∧ L[j].size ≤ 1000 ∧ wr.cell? (ad.add j) = some (.string L[j]) from fun j hj => by
          subst hj
          have hjl : j < L.length := by omega
          obtain ⟨ad2, h2, h3⟩ := str_at LR.out.1 j hjl
          obtain rfl := Option.some.inj h2
          exact ⟨hjl, HR.out j hjl hlt, (HP.out _ (List.getElem_mem hjl)).size, h3⟩)
        generalize L[k] = q at *
        go_wp2_with fail
        have hk0 : (0 : Int) ≤ (k : Int) := Int.natCast_nonneg _
        have hk1 : (k : Int) < (L.length : Int) := by omega
        have HF := Aside0.mk (fun W (h : Below wr.heap.size wr W) => find_any b FS.out.1 q (Nat.le_trans HQ.out.size (by decide)) As cs W (Kd.C_below CR.out.2 h) CR.out.1)
        have KEEP := Aside0.mk (fun W (h : Below wr.heap.size wr W) => show W.cell? ⟨w.heap.size, 0, none⟩ = some (.string b.f0) ∧ W.cell? ⟨w.heap.size, 1, none⟩ = some (.int .i64 b.f1) ∧ W.cell? ⟨w.heap.size, 2, none⟩ = some (.bool b.f2) ∧ W.cell? ⟨w.heap.size, 3, none⟩ = some (.string b.f3) ∧ W.cell? ⟨w.heap.size, 4, none⟩ = some (.slice As b.f4.length cs) ∧ W.cell? (ad.add k) = some (.string q) from keep6 NR.out HLK.out h)
        have BX := Aside0.mk (below_drew (Below.refl wr.heap.size wr))
        clear hlk
        go_region_held3 (fun W => W.cell? ⟨w.heap.size, 0, none⟩ = some (.string b.f0) ∧ W.cell? ⟨w.heap.size, 1, none⟩ = some (.int .i64 b.f1) ∧ W.cell? ⟨w.heap.size, 2, none⟩ = some (.bool b.f2) ∧ W.cell? ⟨w.heap.size, 3, none⟩ = some (.string b.f3) ∧ W.cell? ⟨w.heap.size, 4, none⟩ = some (.slice As b.f4.length cs) ∧ W.cell? (ad.add k) = some (.string q))
          (first | exact KEEP.out _ BX.out | exact KEEP.out _ (below_alloc BX.out _) | exact KEEP.out _ (put5_below BX.out (Nat.le_refl _) _ _ _ _ _))
          (first | (go_at_call 8; (with_reducible refine (HF.out _ ?hb).mono ?_); (case hb => first | exact BX.out | exact below_alloc BX.out _); rintro e V ⟨x, X, n, rfl, hx, hXC, hXl, hb1⟩; have HX := Aside0.mk (And.intro hx (And.intro hXC hXl)); (first | (have BLK := Aside0.mk (show V.heap[wr.heap.size]? = some zeroCells from blk_below (heap_alloc_new wr.drew _) hb1); have e0 := (blk_cell BLK.out 0).trans (rfl : _ = some (Value.string ⟨#[]⟩)); have e1 := (blk_cell BLK.out 1).trans (rfl : _ = some (Value.int .i64 0)); have e2 := (blk_cell BLK.out 2).trans (rfl : _ = some (Value.bool false)); have e3 := (blk_cell BLK.out 3).trans (rfl : _ = some (Value.string ⟨#[]⟩)); have e4 := (blk_cell BLK.out 4).trans (rfl : _ = some (Value.slice none 0 0)); have v0 := blk_nofreeze BLK.out 0; have v1 := blk_nofreeze BLK.out 1; have v2 := blk_nofreeze BLK.out 2; have v3 := blk_nofreeze BLK.out 3; have v4 := blk_nofreeze BLK.out 4) | skip); have BX := Aside0.mk (below_then (show Below wr.heap.size wr _ from by first | exact BX.out | exact below_alloc BX.out _) (below_size (by first | exact BX.out | exact below_alloc BX.out _)) hb1); clear hb1 hx hXC hXl))
        all_goals (first | (have hblk := BLK.out; generalize hW2 : ((((V.setCell ⟨wr.heap.size, 0, none⟩ (.string x.f0)).setCell ⟨wr.heap.size, 1, none⟩ (.int .i64 x.f1)).setCell ⟨wr.heap.size, 2, none⟩ (.bool x.f2)).setCell ⟨wr.heap.size, 3, none⟩ (.string x.f3)).setCell ⟨wr.heap.size, 4, none⟩ (.slice X x.f4.length n) = W2; have NX := Aside0.mk (show W2.heap[wr.heap.size]? = some (nodeCells x X n) from by rw [← hW2]; exact put5_at BLK.out _ _ _ _ _); have BW := Aside0.mk (show Below wr.heap.size wr W2 from by rw [← hW2]; exact put5_below BX.out (Nat.le_refl _) _ _ _ _ _); clear hW2 hblk e0 e1 e2 e3 e4 v0 v1 v2 v3 v4 BLK; obtain ⟨bx, hbx⟩ : ∃ bx, wr.heap.size = bx := ⟨_, rfl⟩; rw [hbx] at NX; rw [hbx]; clear hbx) | (generalize hW2 : V.alloc (.cells #[.string x.f0, .int .i64 x.f1, .bool x.f2, .string x.f3, .slice X x.f4.length n] 24) = W2; have NX := Aside0.mk (show W2.heap[V.heap.size]? = some (nodeCells x X n) from by rw [← hW2]; exact heap_alloc_new V _); have BW := Aside0.mk (show Below wr.heap.size wr W2 from by rw [← hW2]; exact below_alloc BX.out _); clear hW2; generalize V.heap.size = bx at *))
        all_goals
          clear BX HF KEEP hk0 hk1
          have q0 := pw_cell_below BW.out HLK.out
          have hk1 : (k : Int) < (L.length : Int) := by omega
          go_wp2_with fail
          refine (split_any q (Nat.lt_of_le_of_lt HQ.out.size (by decide)) _ (HM.out _ (below_then BR.out BR.out.size BW.out))).mono ?_
          rintro e W7 ⟨g, rfl, hG, hb⟩
          have HG := Aside0.mk hG
          have B7 := Aside0.mk (below_then BW.out BW.out.size hb)
          have NX7 := Aside0.mk (blk_below NX.out hb)
          clear hb hG q0
          obtain ⟨x0, hx0, hlast⟩ := HQ.out.ex
          have hxx : x = x0 := by rw [HX.out.1, hx0]; rfl
          subst hxx
          have his : (findR b q).isSome = true := by rw [hx0]; rfl
          rw [his]
          have HNL := Aside0.mk (And.intro HQ.out.pos (And.intro HQ.out.len HOK.out.1))
          obtain ⟨ad3, hg3, hlc⟩ := str_at HG.out ((splitP q).length - 1) (by have := HNL.out.1; omega)
          obtain rfl := Option.some.inj hg3
          have hlv : (splitP q)[(splitP q).length - 1]'(by have := HNL.out.1; omega) = x.f0 := by
            rw [List.getLast?_eq_getElem?, List.getElem?_eq_getElem (by have := HNL.out.1; omega)] at hlast
            exact Option.some.inj hlast
          rw [hlv, add_blk] at hlc
          have HLC := Aside0.mk hlc
          have N7 := Aside0.mk (blk_below NR.out B7.out)
          have HIX7 := Aside0.mk (fun j hj => (HIX.out j hj).imp fun h1 h2 => (And.intro h2.1 (And.intro h2.2.1 (pw_cell_below B7.out h2.2.2))))
          have hw2 : wrap64 (((splitP q).length : Int) - 1) = (((splitP q).length - 1 : Nat) : Int) := by have := HNL.out; unfold wrap64; omega
          have hw3 : wrap64 (((depthP b : Nat) : Int) - 1) = ((depthP b - 1 : Nat) : Int) := by have := HNL.out; unfold wrap64; omega
          have hi0 : (0 : Int) ≤ (((splitP q).length - 1 : Nat) : Int) := Int.natCast_nonneg _
          have hi1 : (((splitP q).length - 1 : Nat) : Int) < ((splitP q).length : Int) := by have := HNL.out.1; omega
          have hgt : decide (((depthP b - 1 : Nat) : Int) < ((splitP q).length : Int)) = false := by have := HNL.out; exact decide_eq_false (by omega)
          have hgt2 : decide (depthP b - 1 < (splitP q).length) = false := by have := HNL.out; exact decide_eq_false (by omega)
          have HDC := fun y : EW W7 => Calls.ext_of (deep6 b FS.out.1 HOK.out.1 As cs y.v (Kd.C_below CR.out.2 (below_then B7.out B7.out.size y.h)) CR.out.1)
          have z0 := EW.cell ((blk_cell N7.out 0).trans rfl : W7.cell? ⟨w.heap.size, 0, none⟩ = some (.string b.f0))
          have z1 := EW.cell ((blk_cell N7.out 1).trans rfl : W7.cell? ⟨w.heap.size, 1, none⟩ = some (.int .i64 b.f1))
          have z2 := EW.cell ((blk_cell N7.out 2).trans rfl : W7.cell? ⟨w.heap.size, 2, none⟩ = some (.bool b.f2))
          have z3 := EW.cell ((blk_cell N7.out 3).trans rfl : W7.cell? ⟨w.heap.size, 3, none⟩ = some (.string b.f3))
          have z4 := EW.cell ((blk_cell N7.out 4).trans rfl : W7.cell? ⟨w.heap.size, 4, none⟩ = some (.slice As b.f4.length cs))
          have xn := EW.cell ((blk_cell NX7.out 0).trans rfl : W7.cell? ⟨bx, 0, none⟩ = some (.string x.f0))
          have lc := EW.cell HLC.out
          clear hlc hlv hlast hx0 his
          go_wp2_with fail
          refine wp_region_ext (by kernel_rfl) (by kernel_rfl) ?_
          repeat (go_big_quiet_step ((go_at_call 13; exact HDC _)))
          refine wpQuiet_nil ?_
          rintro _ ⟨y, rfl⟩
          have B8 := Aside0.mk (below_then B7.out B7.out.size y.h)
          have G8 := Aside0.mk (Kd.C_below HG.out y.h)
          have HIX8 := Aside0.mk (fun j hj => (HIX7.out j hj).imp fun h1 h2 => (And.intro h2.1 (And.intro h2.2.1 (pw_cell_below y.h h2.2.2))))
          clear HDC z0 z1 z2 z3 z4 xn lc hw2 hw3 hi0 hi1 hgt hgt2
          generalize y.v = W8 at *
          have hjw : wrap64 ((k : Int) + 1) = ((k + 1 : Nat) : Int) := by unfold wrap64; omega
          have HB9 := Aside0.mk (And.intro (below_then HB.out HB.out.size B8.out) True.intro)
          rcases Nat.eq_zero_or_pos k with hz | hpos
          · have hkz : ¬ 0 < k := by omega
            have hkz2 : ¬ (0 : Int) < (k : Int) := by omega
            clear hz
            go_wp2_with fail
            go_roundw
            case rel => exact ⟨k + 1, by omega, by first | rw [hjw] | go_num, ⟨HB9.out.1⟩⟩
            case measure => first | exact few_meas hlt hjw | (simp [intOf]; omega)
          · obtain ⟨hjl, hr, hs, hcj⟩ := HIX8.out (k - 1) (by omega)
            have HRJ := Aside0.mk hr
            have HSJ := Aside0.mk hs
            have hkz2 : (0 : Int) < (k : Int) := by omega
            have hj0 : (1 : Int) ≤ (k : Int) := by omega
            have hj2 : 1 ≤ k := hpos
            have hj1 : (k : Int) - 1 < (L.length : Int) := by omega
            generalize L[k - 1] = q2 at *
            clear hr hs
            go_wp2_with fail
            refine (split_any q2 (Nat.lt_of_le_of_lt HSJ.out (by decide)) _ (HM.out _ (below_then BR.out BR.out.size B8.out))).mono ?_
            rintro e W9 ⟨g2, rfl, hG2, hb⟩
            have HG2 := Aside0.mk hG2
            have G9 := Aside0.mk (Kd.C_below G8.out hb)
            have HB10 := Aside0.mk (below_then HB9.out.1 HB9.out.1.size hb)
            clear hb hG2 hcj
            go_wp2_with fail
            refine (rises_calls (splitP q2) (splitP q) (Nat.le_trans (splitP_len q2) (by have := HSJ.out; omega)) (Nat.le_trans (splitP_len q) (by have := HQ.out.size; omega)) _ _ _ _ W9 HG2.out (Nat.le_refl _) G9.out (Nat.le_refl _)).mono ?_
            rintro e W10 ⟨rfl, hb⟩
            rw [HRJ.out]
            have HB11 := Aside0.mk (And.intro (below_then HB10.out HB10.out.size hb) True.intro)
            clear hb
            go_wp2_with fail
            go_roundw
            case rel => first | exact ⟨k + 1, by omega, by first | rw [hjw] | go_num, ⟨HB11.out.1⟩⟩ | ((repeat apply Exists.intro); exact ⟨⟨k + 1, by omega, by first | rw [hjw] | go_num, ⟨HB11.out.1⟩⟩, rfl⟩)
            case measure => first | exact few_meas hlt hjw | (simp [intOf]; omega)
      · have HST := Aside0.mk (show Calls Tryd.prog 15 #[.agg #[.string b.f0, .int .i64 b.f1, .bool b.f2, .string b.f3, .slice As b.f4.length cs], .agg #[.string b.f0, .int .i64 b.f1, .bool b.f2, .string b.f3, .slice As b.f4.length cs]] wr fun e w' => e = .returned (.bool true) ∧ Below wr.heap.size wr w' from by
          have h := same_any b FS.out.1 b As cs As cs wr FS.out.1 CR.out.2 CR.out.1 CR.out.2 CR.out.1
          rwa [HSR.out] at h)
        have z0 := (blk_cell NR.out 0).trans (rfl : _ = some (Value.string b.f0))
        have z1 := (blk_cell NR.out 1).trans (rfl : _ = some (Value.int .i64 b.f1))
        have z2 := (blk_cell NR.out 2).trans (rfl : _ = some (Value.bool b.f2))
        have z3 := (blk_cell NR.out 3).trans (rfl : _ = some (Value.string b.f3))
        have z4 := (blk_cell NR.out 4).trans (rfl : _ = some (Value.slice As b.f4.length cs))
        go_wp2_with fail
        refine HST.out.mono ?_
        rintro e W7 ⟨rfl, hb⟩
        have BE := Aside0.mk (below_then BR.out BR.out.size hb)
        clear hb z0 z1 z2 z3 z4
        go_wp2_with fail
        go_ret
        exact ⟨rfl, BE.out⟩
  · have hne : (checkP b != 0) = true := by simpa using hck
    have hne2 : (checkP b == 0) = false := beq_eq_false_iff_ne.2 hck
    go_wp2_with fail
    go_ret
    exact ⟨rfl, B4.out⟩
end Go.Proofs.YtalljcjignaafaaDoor.PB

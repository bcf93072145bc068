import Derived.Test.YtalljcjignaafaaDoorQTreeWays8
import Derived.Test.YtalljcjignaafaaDoorQTreeWays9
import Derived.Test.YtalljcjignaafaaDoorQTreeWays14
import Derived.Test.YtalljcjignaafaaDoorQTreeWays18
import Derived.Test.YtalljcjignaafaaDoorQTreeWays20
namespace Go.Proofs.YtalljcjignaafaaDoor.PB
open Go Go.RowKit Go.Proofs.YtalljcjignaafaaDoor Go.Proofs.YtalljcjignaafaaDoorW.PrintWords Go.Proofs.YtalljcjignaafaaDoorW.PrintLast Go.Proofs.YtalljcjignaafaaDoorW.PrintMore
set_option linter.unusedVariables false
set_option linter.unusedSimpArgs false
mutual
def fewT : Tree → Nat → Tree × Nat
  | ⟨n, kd, x, d, ks⟩, left => (⟨n, kd, x, d, (fewK ks left).1⟩, (fewK ks left).2)
def fewK : List Tree → Nat → List Tree × Nat
  | [], left => ([], left)
  | x :: r, left => if left = 0 then ([], 0) else ((fewT x (left - 1)).1 :: (fewK r (fewT x (left - 1)).2).1, (fewK r (fewT x (left - 1)).2).2)
end
theorem fewK_nil (n : Nat) : fewK [] n = ([], n) := by simp only [fewK]
theorem fewK_cons (x : Tree) (r : List Tree) (n : Nat) : fewK (x :: r) n = if n = 0 then ([], 0) else ((fewT x (n - 1)).1 :: (fewK r (fewT x (n - 1)).2).1, (fewK r (fewT x (n - 1)).2).2) := by rw [fewK]
theorem fewT_eq (t : Tree) (n : Nat) : fewT t n = (⟨t.f0, t.f1, t.f2, t.f3, (fewK t.f4 n).1⟩, (fewK t.f4 n).2) := by cases t; rw [fewT]
mutual
theorem fewT_le : ∀ (t : Tree) (n : Nat), (fewT t n).2 ≤ n
  | ⟨_, _, _, _, ks⟩, n => by simp only [fewT]; exact fewK_le ks n
theorem fewK_le : ∀ (ks : List Tree) (n : Nat), (fewK ks n).2 ≤ n
  | [], n => by simp only [fewK]; exact Nat.le_refl _
  | x :: r, n => by
    simp only [fewK]
    split
    · exact Nat.zero_le _
    · have h1 := fewT_le x (n - 1)
      have h2 := fewK_le r (fewT x (n - 1)).2
      show (fewK r (fewT x (n - 1)).2).2 ≤ n
      omega
end
/-- All that lay in W lies in W', but for one block. -/
def KB (b : Nat) (W W' : World) : Prop := Below 0 W W' ∧ ∀ k, k < W.heap.size → k ≠ b → W'.heap[k]? = W.heap[k]?
theorem KB.refl (b : Nat) (W : World) : KB b W W := ⟨Below.refl _ _, fun _ _ _ => rfl⟩
theorem KB.size {b : Nat} {W W' : World} (h : KB b W W') : W.heap.size ≤ W'.heap.size := h.1.size
theorem KB.trans {b : Nat} {A B C : World} (h : KB b A B) (k : KB b B C) : KB b A C := ⟨below0_trans h.1 k.1, fun i hi hb => (k.2 i (Nat.lt_of_lt_of_le hi h.size) hb).trans (h.2 i hi hb)⟩
theorem KB.of_below {b : Nat} {W W' : World} (h : Below W.heap.size W W') : KB b W W' := ⟨h.mono (Nat.zero_le _), fun k hk _ => h.block k hk⟩
def leftCell (n : Nat) : Obj := .cells #[.int .i64 (n : Int)] 3 (0, 0)
theorem at_F {w : World} {ok : Nat → Prop} {A : Option Addr} {n : Nat} {xs : List Tree} (h : Kd.F k24 w ok A n xs) (j : Nat) (hj : j < xs.length) : ∃ ad A4 c4, A = some ad ∧ w.cell? (ad.add (j * 5)) = some (.string (rd_T24 xs (j : Int)).f0) ∧ w.cell? ⟨(ad.add (j * 5)).block, (ad.add (j * 5)).off + 1, none⟩ = some (.int .i64 (rd_T24 xs (j : Int)).f1) ∧ w.cell? ⟨(ad.add (j * 5)).block, (ad.add (j * 5)).off + 2, none⟩ = some (.bool (rd_T24 xs (j : Int)).f2) ∧ w.cell? ⟨(ad.add (j * 5)).block, (ad.add (j * 5)).off + 3, none⟩ = some (.string (rd_T24 xs (j : Int)).f3) ∧ w.cell? ⟨(ad.add (j * 5)).block, (ad.add (j * 5)).off + 4, none⟩ = some (.slice A4 (rd_T24 xs (j : Int)).f4.length c4) ∧ (rd_T24 xs (j : Int)).f4.length ≤ c4 ∧ Kd.F k24 w ok A4 (rd_T24 xs (j : Int)).f4.length (rd_T24 xs (j : Int)).f4 ∧ ok ad.block := by
  have hn := Kd.F_len h
  obtain ⟨ad, c, e, _, hK, hc0, hob⟩ := Kd.F_get h z24 (j : Int) (by omega) (by omega)
  have hc : ∀ i u, c[i]? = some u → w.cell? (ad.add (j * 5 + i)) = some u := hc0
  obtain ⟨A4, c4, rfl, l4, g4⟩ := k24_openF hK
  exact ⟨ad, A4, c4, e, hc 0 _ rfl, by rw [← add_field _ _ 1 (by omega)]; exact hc 1 _ rfl, by rw [← add_field _ _ 2 (by omega)]; exact hc 2 _ rfl, by rw [← add_field _ _ 3 (by omega)]; exact hc 3 _ rfl, by rw [← add_field _ _ 4 (by omega)]; exact hc 4 _ rfl, l4, g4, hob (show 0 < 5 by decide)⟩
theorem few_meas {n j : Nat} (hlt : j < n) (h : wrap64 ((j : Int) + 1) = ((j + 1 : Nat) : Int)) : n - (intOf (.int .i64 (wrap64 ((j : Int) + 1)))).toNat < n - (intOf (.int .i64 (j : Int))).toNat := by
  rw [h]
  simp [intOf]
  omega
theorem few_end {w wr : World} {bl lf : Nat} {v : Value} {acc : List Tree} (hr : Kd.R k24 24 wr w.heap.size (fun k => k ≠ w.heap.size ∧ k ≠ w.heap.size + 1 ∧ k ≠ bl) v acc) (hb : wr.heap[bl]? = some (leftCell lf)) (hk : KB bl w wr) (hlt : bl < w.heap.size) (u v0 v1 v2 v3 v4 : Value) :
    Kd.R k24 24 (put5 (wr.setCell ⟨w.heap.size, 4, none⟩ u) (w.heap.size + 1) v0 v1 v2 v3 v4) w.heap.size (fun _ => True) v acc ∧ (put5 (wr.setCell ⟨w.heap.size, 4, none⟩ u) (w.heap.size + 1) v0 v1 v2 v3 v4).heap[bl]? = some (leftCell lf) ∧ KB bl w (put5 (wr.setCell ⟨w.heap.size, 4, none⟩ u) (w.heap.size + 1) v0 v1 v2 v3 v4) := by
  have hm : ∀ k, k ≠ w.heap.size → k ≠ w.heap.size + 1 → (put5 (wr.setCell ⟨w.heap.size, 4, none⟩ u) (w.heap.size + 1) v0 v1 v2 v3 v4).heap[k]? = wr.heap[k]? := fun k h1 h2 => (put5_other h2 _ _ _ _ _).trans (Below.heap_setCell wr ⟨w.heap.size, 4, none⟩ u k h1)
  refine ⟨Kd.R_mono (Kd.R_step hr (fun k h1 _ => hm k h1.1 h1.2.1)) (fun _ _ => trivial), (hm bl (by omega) (by omega)).trans hb, ?_, fun k h1 h2 => (hm k (by omega) (by omega)).trans (hk.2 k h1 h2)⟩
  exact put5_below (hk.1.setCell (p := ⟨w.heap.size, 4, none⟩) (Nat.zero_le _) _) (Nat.zero_le _) _ _ _ _ _
def FewOK (bl : Nat) (t : Tree) : Prop := ∀ (left : Nat), left ≤ 300 → ∀ (A : Option Addr) (c : Nat) (w : World), Kd.F k24 w (fun k => k ≠ bl) A t.f4.length t.f4 → t.f4.length ≤ c → w.heap[bl]? = some (leftCell left) →
    Calls Tryd.prog 22 #[.agg #[.string t.f0, .int .i64 t.f1, .bool t.f2, .string t.f3, .slice A t.f4.length c], .pointer (some ⟨bl, 0, none⟩)] w fun e w' => ∃ v4, e = .returned (.agg #[.string t.f0, .int .i64 t.f1, .bool t.f2, .string t.f3, v4]) ∧ Kd.R k24 24 w' w.heap.size (fun _ => True) v4 (fewK t.f4 left).1 ∧ w'.heap[bl]? = some (leftCell (fewK t.f4 left).2) ∧ KB bl w w'
set_option maxRecDepth 100000 in
set_option maxHeartbeats 4000000 in
theorem few_step (bl : Nat) (t : Tree) (ih : ∀ x ∈ t.f4, FewOK bl x) : FewOK bl t := by
  intro left hl A c w hF hc hb
  have hu := Tryd.underlying24
  have HF := Aside0.mk hF
  have HC := Aside0.mk hc
  have IH := Aside0.mk ih
  have hbw := blk_lt hb
  have B1 := Aside0.mk (blk_alloc (heap_alloc_new w (.cells #[.string t.f0, .int .i64 t.f1, .bool t.f2, .string t.f3, .slice A t.f4.length c] 24)) zeroCells)
  have B2 := Aside0.mk (show ((w.alloc (.cells #[.string t.f0, .int .i64 t.f1, .bool t.f2, .string t.f3, .slice A t.f4.length c] 24)).alloc zeroCells).heap[w.heap.size + 1]? = some zeroCells from by
    have h := heap_alloc_new (w.alloc (.cells #[.string t.f0, .int .i64 t.f1, .bool t.f2, .string t.f3, .slice A t.f4.length c] 24)) zeroCells
    rwa [World.size_alloc] at h)
  have B3 := Aside0.mk (blk_alloc (blk_alloc hb (.cells #[.string t.f0, .int .i64 t.f1, .bool t.f2, .string t.f3, .slice A t.f4.length c] 24)) zeroCells)
  have BK := Aside0.mk (show KB bl w ((w.alloc (.cells #[.string t.f0, .int .i64 t.f1, .bool t.f2, .string t.f3, .slice A t.f4.length c] 24)).alloc zeroCells) from KB.of_below (below_alloc (below_alloc (Below.refl _ w) _) _))
  have HBW := Aside0.mk hbw
  have HLF := Aside0.mk hl
  clear hF hc hb ih hbw hl
  go_enter Tryd.func22, Tryd.ntmps22
  go_wp2_with fail
  go_loopw [5, 6] (fun v i wr => ∃ (j : Nat) (acc : List Tree) (lf : Nat), j ≤ t.f4.length ∧ i = .int .i64 j ∧ Aside0 (fewK t.f4 left = (acc ++ (fewK (t.f4.drop j) lf).1, (fewK (t.f4.drop j) lf).2)) ∧ Aside0 (acc.length + lf ≤ 300) ∧
      Aside0 (Kd.R k24 24 wr w.heap.size (fun k => k ≠ w.heap.size ∧ k ≠ w.heap.size + 1 ∧ k ≠ bl) v acc) ∧ Aside0 (wr.heap[w.heap.size]? = some (nodeCells t A c)) ∧ Aside0 (wr.heap[w.heap.size + 1]? = some zeroCells) ∧ Aside0 (wr.heap[bl]? = some (leftCell lf)) ∧ Aside0 (KB bl w wr)) (fun _ i _ => t.f4.length - (intOf i).toNat)
  case atStart => exact ⟨0, [], left, Nat.zero_le _, rfl, ⟨by rw [List.drop_zero, List.nil_append]⟩, ⟨by have := HLF.out; simp; omega⟩, ⟨Kd.R_nil _ _ _ _ _⟩, B1, B2, B3, BK⟩
  case round =>
    obtain ⟨j, acc, lf, hj, rfl, HE, HLN, HR, C1, C2, C3, HK⟩ := hrel
    have x0 := (blk_cell C1.out 0).trans (rfl : _ = some (Value.string t.f0))
    have x1 := (blk_cell C1.out 1).trans (rfl : _ = some (Value.int .i64 t.f1))
    have x2 := (blk_cell C1.out 2).trans (rfl : _ = some (Value.bool t.f2))
    have x3 := (blk_cell C1.out 3).trans (rfl : _ = some (Value.string t.f3))
    have x4 := (blk_cell C1.out 4).trans (rfl : _ = some (Value.slice A t.f4.length c))
    have y0 := (blk_cell C3.out 0).trans (rfl : _ = some (Value.int .i64 (lf : Int)))
    have y1 := blk_nofreeze C3.out 0
    by_cases hlt : j < t.f4.length
    · by_cases hlf : 0 < lf
      · obtain ⟨ad, A4, c4, hA, e0, e1, e2, e3, e4, l4, g4, hadb⟩ := at_F (Kd.F_step HF.out (fun k hk hlt => HK.out.2 k hlt hk)) j hlt
        subst hA
        have hxm : rd_T24 t.f4 (j : Int) ∈ t.f4 := by rw [rd_at t.f4 j hlt]; exact List.getElem_mem hlt
        have HX := Aside0.mk (IH.out _ hxm (lf - 1) (by have := HLN.out; omega) A4 c4)
        have HG := Aside0.mk (And.intro l4 g4)
        have HXE := Aside0.mk (show fewK (t.f4.drop j) lf = ((fewT (rd_T24 t.f4 (j : Int)) (lf - 1)).1 :: (fewK (t.f4.drop (j + 1)) (fewT (rd_T24 t.f4 (j : Int)) (lf - 1)).2).1, (fewK (t.f4.drop (j + 1)) (fewT (rd_T24 t.f4 (j : Int)) (lf - 1)).2).2) from by
          rw [rd_at t.f4 j hlt, List.drop_eq_getElem_cons hlt, fewK_cons, if_neg (by omega)])
        generalize rd_T24 t.f4 (j : Int) = x at *
        have hw1 : wrap64 ((lf : Int) - 1) = ((lf - 1 : Nat) : Int) := by have := HLN.out; unfold wrap64; omega
        have hnb : ∀ (u : Value) (a : Addr), a.block = ad.block → (wr.setCell ⟨bl, 0, none⟩ u).cell? a = wr.cell? a := fun u a ha => World.cell?_setCell_far wr ⟨bl, 0, none⟩ a u (by rw [ha]; exact Ne.symm hadb)
        have f0 := (hnb (.int .i64 ((lf - 1 : Nat) : Int)) _ (add_block _ _)).trans e0
        have f1 := (hnb (.int .i64 ((lf - 1 : Nat) : Int)) ⟨(ad.add (j * 5)).block, (ad.add (j * 5)).off + 1, none⟩ (add_block _ _)).trans e1
        have f2 := (hnb (.int .i64 ((lf - 1 : Nat) : Int)) ⟨(ad.add (j * 5)).block, (ad.add (j * 5)).off + 2, none⟩ (add_block _ _)).trans e2
        have f3 := (hnb (.int .i64 ((lf - 1 : Nat) : Int)) ⟨(ad.add (j * 5)).block, (ad.add (j * 5)).off + 3, none⟩ (add_block _ _)).trans e3
        have f4 := (hnb (.int .i64 ((lf - 1 : Nat) : Int)) ⟨(ad.add (j * 5)).block, (ad.add (j * 5)).off + 4, none⟩ (add_block _ _)).trans e4
        clear hnb hadb e0 e1 e2 e3 e4
        have hlf' : 0 < (lf : Int) := by omega
        clear l4 g4 hxm
        go_wp2_with fail
        refine (HX.out _ (Kd.F_step HG.out.2 (fun k hk _ => Below.heap_setCell _ _ _ _ hk)) HG.out.1 ((blk_store (l := [_]) C3.out 0 _).trans rfl)).mono ?_
        rintro e w1 ⟨v4, rfl, hr4, hb4, hk4⟩
        rw [fewT_eq] at HXE
        have hle := fewK_le x.f4 (lf - 1)
        generalize fewK x.f4 (lf - 1) = kk at *
        obtain ⟨kl, lr⟩ := kk
        dsimp only at hr4 hb4 hle HXE
        have HLE := Aside0.mk hle
        have K1 := Aside0.mk (show KB bl wr w1 from KB.trans ⟨(Below.refl 0 wr).setCell (p := ⟨bl, 0, none⟩) (Nat.zero_le _) _, fun k hk hne => Below.heap_setCell wr ⟨bl, 0, none⟩ _ k hne⟩ hk4)
        have hws := HK.out.size
        have hgs := blk_lt C2.out
        have hbw := HBW.out
        have D1 := Aside0.mk ((K1.out.2 _ (blk_lt C1.out) (by omega)).trans C1.out)
        have D2 := Aside0.mk ((K1.out.2 _ (blk_lt C2.out) (by omega)).trans C2.out)
        have D3 := Aside0.mk hb4
        have R1 := Aside0.mk (Kd.R_step HR.out (fun k hk hlt => K1.out.2 k hlt hk.2.2))
        have hsz : (wr.setCell ⟨bl, 0, none⟩ (.int .i64 ((lf - 1 : Nat) : Int))).heap.size = wr.heap.size := by simp
        rw [hsz] at hr4
        have M1 := Aside0.mk (show Kd.R k24 24 w1 w.heap.size (fun k => (k ≠ w.heap.size ∧ k ≠ w.heap.size + 1 ∧ k ≠ bl) ∧ some k ≠ u5.ownBlock) v4 kl from
          Kd.R_lower (Kd.R_mono (Kd.R_bound hr4) (fun k hk => ⟨⟨by have := hk.2.1; omega, by have := hk.2.1; omega, by have := hk.2.1; omega⟩, fun e => by have := Kd.R_lt HR.out k e.symm; have := hk.2.1; omega⟩)) hws)
        obtain ⟨Ao, co, eo⟩ := Kd.R_slice M1.out
        subst eo
        have HWS := Aside0.mk (And.intro hws (And.intro hgs hbw))
        have HS1 := Aside0.mk K1.out.size
        clear hle hr4 hb4 hk4 hws hgs hbw f0 f1 f2 f3 f4 x0 x1 x2 x3 x4 y0 y1 hsz
        have hal : acc.length ≤ 300 := by have := HLN.out; omega
        have HAL := Aside0.mk hal
        have hjw : wrap64 ((j : Int) + 1) = ((j + 1 : Nat) : Int) := by have := Kd.F_max HF.out; unfold wrap64; omega
        clear hal
        go_wp2_with ((with_reducible refine gate_builtin (b := .append) (xs := #[.tmp 26, .tmp 34]) rfl ?_); at_builtin; refine Kd.R_append k24 (w0 := w1) w.heap.size rfl (.tmp 26) (.tmp 34) 22 24 (.agg #[(.string ⟨#[]⟩), (.int .i64 0), (.bool false), (.string ⟨#[]⟩), (.slice none 0 0)]) 72 rfl Tryd.underlying22 info24 rfl (by decide) (by omega) u5 acc (⟨x.f0, x.f1, x.f2, x.f3, kl⟩ : Tree) [.string x.f0, .int .i64 x.f1, .bool x.f2, .string x.f3, .slice Ao kl.length co] (fun k => k ≠ w.heap.size ∧ k ≠ w.heap.size + 1 ∧ k ≠ bl) (fun k => (k ≠ w.heap.size ∧ k ≠ w.heap.size + 1 ∧ k ≠ bl) ∧ some k ≠ (u5 : Value).ownBlock) rfl rfl ?aP (fun _ hk => hk) ?aF ?aO ?aB ?aS ?aL ?_; (case aP => exact k24_mkM _ _ _ (⟨x.f0, x.f1, x.f2, x.f3, kl⟩ : Tree) M1.out); (case aF => intro k hk; have := HWS.out; have := HS1.out; exact ⟨by omega, by omega, by omega⟩); (case aO => exact R1.out); (case aB => exact Below.refl _ _); (case aS => have := HWS.out; have := HS1.out; omega); (case aL => have := HAL.out; omega); intro v5 w2 ho hb hg hat; have E1 := Aside0.mk (blk_grown D1.out hg (Kd.R_away R1.out (fun _ hk => hk.1))); have E2 := Aside0.mk (blk_grown D2.out hg (Kd.R_away R1.out (fun _ hk => hk.2.1))); have E3 := Aside0.mk (blk_grown D3.out hg (Kd.R_away R1.out (fun _ hk => hk.2.2))); have E4 := Aside0.mk ho; have E5 := Aside0.mk hb; clear ho hb hg hat)
        go_roundw
        case rel =>
          refine ⟨j + 1, acc ++ [⟨x.f0, x.f1, x.f2, x.f3, kl⟩], lr, by omega, by rw [hjw], ⟨?_⟩, ⟨?_⟩, E4, E1, E2, E3, ⟨?_⟩⟩
          · rw [HE.out, HXE.out]
            simp
          · have h1 := HLE.out
            have h2 := HLN.out
            rw [List.length_append, List.length_singleton]
            omega
          · have h1 := HK.out.trans K1.out
            exact ⟨below0_trans h1.1 (E5.out.mono (Nat.zero_le _)), fun k hk hne => (E5.out.block k hk).trans (h1.2 k hk hne)⟩
        case measure => exact few_meas hlt hjw
      · have hz : lf = 0 := by omega
        subst hz
        have HRS := HR
        obtain ⟨Ao, co, eo⟩ := Kd.R_slice HR.out
        subst eo
        have HZ := Aside0.mk (show fewK t.f4 left = (acc, 0) from by
          rw [HE.out, List.drop_eq_getElem_cons hlt, fewK_cons, if_pos rfl, List.append_nil])
        have g0 := (blk_cell C2.out 0).trans (rfl : _ = some (Value.string ⟨#[]⟩))
        have g1 := (blk_cell C2.out 1).trans (rfl : _ = some (Value.int .i64 0))
        have g2 := (blk_cell C2.out 2).trans (rfl : _ = some (Value.bool false))
        have g3 := (blk_cell C2.out 3).trans (rfl : _ = some (Value.string ⟨#[]⟩))
        have g4 := (blk_cell C2.out 4).trans (rfl : _ = some (Value.slice none 0 0))
        have u0 := blk_nofreeze C2.out 0
        have u1 := blk_nofreeze C2.out 1
        have u2 := blk_nofreeze C2.out 2
        have u3 := blk_nofreeze C2.out 3
        have u4 := blk_nofreeze C2.out 4
        have x5 := blk_nofreeze C1.out 4
        go_wp2_with fail
        have hne : w.heap.size + 1 ≠ w.heap.size := by omega
        have HQ : (put5 (wr.setCell ⟨w.heap.size, 4, none⟩ (.slice Ao acc.length co)) (w.heap.size + 1) (.string t.f0) (.int .i64 t.f1) (.bool t.f2) (.string t.f3) (.slice Ao acc.length co)).heap[w.heap.size + 1]? = some (.cells #[.string t.f0, .int .i64 t.f1, .bool t.f2, .string t.f3, .slice Ao acc.length co] 24 (0, 0)) := put5_at ((Below.heap_setCell wr ⟨w.heap.size, 4, none⟩ _ _ hne).trans C2.out) _ _ _ _ _
        refine bodyPost_ret (results_cell_row rfl _ _ (w.heap.size + 1) 24 #[.string t.f0, .int .i64 t.f1, .bool t.f2, .string t.f3, .slice Ao acc.length co] (0, 0) _ rfl HQ Tryd.underlying24 rfl (by kernel_rfl)) rfl ?_
        rw [HZ.out]
        exact ⟨_, rfl, few_end HR.out C3.out HK.out HBW.out _ _ _ _ _ _⟩
    · have hjn : j = t.f4.length := by omega
      obtain ⟨Ao, co, eo⟩ := Kd.R_slice HR.out
      subst eo
      have HZ := Aside0.mk (show fewK t.f4 left = (acc, lf) from by
        rw [HE.out, List.drop_of_length_le (by omega), fewK_nil, List.append_nil])
      have g0 := (blk_cell C2.out 0).trans (rfl : _ = some (Value.string ⟨#[]⟩))
      have g1 := (blk_cell C2.out 1).trans (rfl : _ = some (Value.int .i64 0))
      have g2 := (blk_cell C2.out 2).trans (rfl : _ = some (Value.bool false))
      have g3 := (blk_cell C2.out 3).trans (rfl : _ = some (Value.string ⟨#[]⟩))
      have g4 := (blk_cell C2.out 4).trans (rfl : _ = some (Value.slice none 0 0))
      have u0 := blk_nofreeze C2.out 0
      have u1 := blk_nofreeze C2.out 1
      have u2 := blk_nofreeze C2.out 2
      have u3 := blk_nofreeze C2.out 3
      have u4 := blk_nofreeze C2.out 4
      have x5 := blk_nofreeze C1.out 4
      go_wp2_with fail
      have hne : w.heap.size + 1 ≠ w.heap.size := by omega
      have HQ : (put5 (wr.setCell ⟨w.heap.size, 4, none⟩ (.slice Ao acc.length co)) (w.heap.size + 1) (.string t.f0) (.int .i64 t.f1) (.bool t.f2) (.string t.f3) (.slice Ao acc.length co)).heap[w.heap.size + 1]? = some (.cells #[.string t.f0, .int .i64 t.f1, .bool t.f2, .string t.f3, .slice Ao acc.length co] 24 (0, 0)) := put5_at ((Below.heap_setCell wr ⟨w.heap.size, 4, none⟩ _ _ hne).trans C2.out) _ _ _ _ _
      refine bodyPost_ret (results_cell_row rfl _ _ (w.heap.size + 1) 24 #[.string t.f0, .int .i64 t.f1, .bool t.f2, .string t.f3, .slice Ao acc.length co] (0, 0) _ rfl HQ Tryd.underlying24 rfl (by kernel_rfl)) rfl ?_
      rw [HZ.out]
      exact ⟨_, rfl, few_end HR.out C3.out HK.out HBW.out _ _ _ _ _ _⟩
end Go.Proofs.YtalljcjignaafaaDoor.PB
namespace Go.Proofs.YtalljcjignaafaaDoor
open Go.RowKit Go.Proofs.YtalljcjignaafaaDoor.PB Go.Proofs.YtalljcjignaafaaDoorW.PrintWords Go.Proofs.YtalljcjignaafaaDoorW.PrintLast
set_option linter.unusedVariables false
set_option linter.unusedSimpArgs false
def cutB (n : Nat) (s : ByteArray) : ByteArray := s.extract 0 (min s.size n)
theorem cutB_size (n : Nat) (s : ByteArray) : (cutB n s).size = min s.size n := by
  unfold cutB; rw [ByteArray.size_extract]; omega
def cutP : Nat → Tree → Tree
  | 0, t => ⟨cutB 30 t.f0, t.f1, t.f2, cutB 300 t.f3, []⟩
  | d + 1, t => ⟨cutB 30 t.f0, t.f1, t.f2, cutB 300 t.f3, (t.f4.take 6).map (cutP d)⟩
/-- A small node: its name, its data, and how many kids. -/
inductive Lim : Tree → Prop
  | mk (t : Tree) (h0 : t.f0.size ≤ 30) (h3 : t.f3.size ≤ 300) (h4 : t.f4.length ≤ 6) (hk : ∀ k, k ∈ t.f4 → Lim k) : Lim t
theorem Lim.name {t : Tree} (h : Lim t) : t.f0.size ≤ 30 := by cases h; assumption
theorem Lim.data {t : Tree} (h : Lim t) : t.f3.size ≤ 300 := by cases h; assumption
theorem Lim.kids {t : Tree} (h : Lim t) : t.f4.length ≤ 6 := by cases h; assumption
theorem Lim.kid {t : Tree} (h : Lim t) : ∀ k ∈ t.f4, Lim k := by cases h; assumption
theorem cutP_f0 (d : Nat) (t : Tree) : (cutP d t).f0 = cutB 30 t.f0 := by cases d <;> rfl
theorem cutP_f1 (d : Nat) (t : Tree) : (cutP d t).f1 = t.f1 := by cases d <;> rfl
theorem cutP_f3 (d : Nat) (t : Tree) : (cutP d t).f3 = cutB 300 t.f3 := by cases d <;> rfl
theorem cutP_fit : ∀ (d : Nat) (t : Tree), Fit t → Fit (cutP d t)
  | 0, t, h => Fit.mk _ (by rw [cutP_f0, cutB_size]; omega) (by rw [cutP_f1]; exact h.kind) (by rw [cutP_f3, cutB_size]; omega) (by show ([] : List Tree).length ≤ _; simp) (fun k hk => by cases hk)
  | d + 1, t, h => Fit.mk _ (by rw [cutP_f0, cutB_size]; omega) (by rw [cutP_f1]; exact h.kind) (by rw [cutP_f3, cutB_size]; omega) (by show ((t.f4.take 6).map (cutP d)).length ≤ _; simp; omega) (fun k hk => by
      obtain ⟨x, hx, rfl⟩ := List.mem_map.1 hk
      exact cutP_fit d x (h.kid x (List.mem_of_mem_take hx)))
theorem mn_cut6 (n m : Nat) : mn (n : Int) (m : Int) = ((min n m : Nat) : Int) := by
  unfold mn; split <;> omega
theorem cut_loop (d : Nat) (hd : d ≤ 16) (t : Tree) (hl : t.f4.length ≤ 1954687338212) (nm dt : ByteArray)
    (ih : ∀ x ∈ t.f4, Ev (fun k => whisklaw06_cut.f k x.f0 x.f1 x.f2 x.f3 x.f4 (d : Int)) ((cutP d x).f0, (cutP d x).f1, (cutP d x).f2, (cutP d x).f3, (cutP d x).f4)) :
    ∀ (n i : Nat) (acc : List Tree), 6 - i = n → i ≤ 6 → acc.length ≤ i → Ev (fun k => whisklaw06_cut.l0 k ((d + 1 : Nat) : Int) acc (i : Int) nm t.f1 t.f2 dt t.f4) (nm, t.f1, t.f2, dt, acc ++ ((t.f4.take 6).drop i).map (cutP d))
  | 0, i, acc, hn, hi, ha => by
    refine Ev.succ ((Ev.const _).congr (fun k => ?_) rfl)
    simp only [whisklaw06_cut.l0]
    rw [List.drop_of_length_le (by simp; omega)]
    by_cases h1 : (i : Int) < (t.f4.length : Int)
    · rw [if_pos h1, if_neg (by omega)]; simp
    · rw [if_neg h1]; simp
  | n + 1, i, acc, hn, hi, ha => by
    by_cases h1 : i < t.f4.length
    · have h2 : i < (t.f4.take 6).length := by simp; omega
      have e1 : ((t.f4.take 6).drop i).map (cutP d) = cutP d t.f4[i] :: ((t.f4.take 6).drop (i + 1)).map (cutP d) := by
        rw [List.drop_eq_getElem_cons h2, List.map_cons, List.getElem_take]
      refine Ev.succ (Ev.congr ((ih t.f4[i] (List.getElem_mem h1)).bind (g := fun k bt => whisklaw06_cut.l0 k ((d + 1 : Nat) : Int) (acc ++ [(⟨bt.1, bt.2.1, bt.2.2.1, bt.2.2.2.1, bt.2.2.2.2⟩ : Tree)]) ((i + 1 : Nat) : Int) nm t.f1 t.f2 dt t.f4) ((cut_loop d hd t hl nm dt ih n (i + 1) (acc ++ [cutP d t.f4[i]]) (by omega) (by omega) (by simp; omega)).congr (fun k => by generalize cutP d t.f4[i] = q; cases q; rfl) rfl)) (fun k => ?_) ?_)
      · simp only [whisklaw06_cut.l0]
        rw [if_pos (by omega), if_pos (by omega), if_pos (by omega), if_pos (by omega), rd_at t.f4 i h1, wrap64_id ((d + 1 : Nat) - 1 : Int) (by omega) (by omega), wrap64_id ((i : Int) + 1) (by omega) (by omega), show (((d + 1 : Nat) : Int) - 1) = (d : Int) by omega]
        simp only [show acc.length < 1954687338268 by omega, if_true]
        rfl
      · rw [e1]; simp
    · refine Ev.succ ((Ev.const _).congr (fun k => ?_) rfl)
      simp only [whisklaw06_cut.l0]
      rw [if_neg (by omega), List.drop_of_length_le (by simp; omega)]
      simp
theorem cut_ev : ∀ (d : Nat) (t : Tree), d ≤ 17 → Fit t → Ev (fun k => whisklaw06_cut.f k t.f0 t.f1 t.f2 t.f3 t.f4 (d : Int)) ((cutP d t).f0, (cutP d t).f1, (cutP d t).f2, (cutP d t).f3, (cutP d t).f4)
  | 0, t, hd, hf => by
    refine Ev.succ (Ev.succ ((Ev.const _).congr (fun k => ?_) rfl))
    simp only [whisklaw06_cut.f, show (30 : Int) = ((30 : Nat) : Int) from rfl, show (300 : Int) = ((300 : Nat) : Int) from rfl, mn_cut6]
    rw [if_pos (by omega), if_pos (by omega), if_pos (by omega), if_pos (by omega)]
    simp only [whisklaw06_cut.l0]
    by_cases h1 : (0 : Int) < (t.f4.length : Int)
    · rw [if_pos h1, if_pos (by decide), if_neg (by decide)]; rfl
    · rw [if_neg h1]; rfl
  | d + 1, t, hd, hf => by
    refine Ev.succ (Ev.congr (cut_loop d (by omega) t hf.kids (cutB 30 t.f0) (cutB 300 t.f3) (fun x hx => cut_ev d x (by omega) (hf.kid x hx)) 6 0 [] (by omega) (by omega) (by simp)) (fun k => ?_) ?_)
    · simp only [whisklaw06_cut.f, show (30 : Int) = ((30 : Nat) : Int) from rfl, show (300 : Int) = ((300 : Nat) : Int) from rfl, mn_cut6]
      rw [if_pos (by omega), if_pos (by omega), if_pos (by omega), if_pos (by omega)]
      rfl
    · rfl
mutual
theorem fewT_fit : ∀ (t : Tree) (n : Nat), Fit t → Fit (fewT t n).1
  | ⟨a, b, c, d, ks⟩, n, h => by
    simp only [fewT]
    have h1 := fewK_fit ks n h.kid
    have h2 : ks.length ≤ 1954687338212 := h.kids
    exact Fit.mk _ h.name h.kind h.data (Nat.le_trans h1.1 h2) h1.2
theorem fewK_fit : ∀ (ks : List Tree) (n : Nat), (∀ x ∈ ks, Fit x) → (fewK ks n).1.length ≤ ks.length ∧ ∀ x ∈ (fewK ks n).1, Fit x
  | [], n, _ => by simp only [fewK]; exact ⟨Nat.le_refl _, fun x hx => by cases hx⟩
  | x :: r, n, h => by
    simp only [fewK]
    split
    · exact ⟨Nat.zero_le _, fun x hx => by cases hx⟩
    · have h1 := fewT_fit x (n - 1) (h x (by simp))
      have h2 := fewK_fit r (fewT x (n - 1)).2 (fun y hy => h y (by simp [hy]))
      refine ⟨Nat.succ_le_succ h2.1, fun y hy => ?_⟩
      rcases List.mem_cons.1 hy with rfl | hy
      · exact h1
      · exact h2.2 y hy
end
def smallP (t : Tree) : Tree := (fewT (cutP 16 t) 300).1
theorem small_fit (t : Tree) (h : Fit t) : Fit (smallP t) := fewT_fit _ _ (cutP_fit 16 t h)
end Go.Proofs.YtalljcjignaafaaDoor
namespace Go.Proofs.YtalljcjignaafaaDoor.PB
open Go Go.RowKit Go.Proofs.YtalljcjignaafaaDoor Go.Proofs.YtalljcjignaafaaDoorW.PrintWords Go.Proofs.YtalljcjignaafaaDoorW.PrintLast Go.Proofs.YtalljcjignaafaaDoorW.PrintMore
set_option linter.unusedVariables false
set_option linter.unusedSimpArgs false
theorem R_foot {w : World} {A : Option Addr} {n c b : Nat} {ok : Nat → Prop} {xs : List Tree} (h : Kd.R k24 24 w b ok (.slice A n c) xs) : n = xs.length ∧ n ≤ c ∧ Kd.F k24 w (fun k => b ≤ k ∧ k < w.heap.size) A xs.length xs :=
  ⟨(Kd.R_reads' h).1, (Kd.R_reads' h).2.1, fun W' hW => (Kd.R_reads' (Kd.R_step (Kd.R_bound h) (fun k hk hlt => hW k ⟨hk.2.1, hlt⟩ hlt))).2.2⟩
theorem few_any (bl : Nat) : (t : Tree) → FewOK bl t
  | ⟨a, b, c, d, ks⟩ => few_step bl ⟨a, b, c, d, ks⟩ (fun x hx => few_any bl x)
termination_by t => SizeOf.sizeOf t
decreasing_by
  have h := List.sizeOf_lt_of_mem (show x ∈ ks from hx)
  simp
  omega
theorem call_cut (t : Tree) (hf : Fit t) (A : Option Addr) (c : Nat) (w : World) (hC : Kd.C k24 w A t.f4.length t.f4) (hc : t.f4.length ≤ c) :
    Calls Tryd.prog 21 #[.agg #[.string t.f0, .int .i64 t.f1, .bool t.f2, .string t.f3, .slice A t.f4.length c], .int .i64 16] w fun e w' => ∃ v4_ : Value, e = .returned (.agg #[.string (cutP 16 t).f0, .int .i64 (cutP 16 t).f1, .bool (cutP 16 t).f2, .string (cutP 16 t).f3, v4_]) ∧ Kd.R k24 24 w' w.heap.size (fun _ => True) v4_ (cutP 16 t).f4 ∧ Below w.heap.size w w' := by
  obtain ⟨k, hk⟩ := cut_ev 16 t (by omega) hf
  exact whisklaw06_cut.calls k t.f0 t.f1 t.f2 t.f3 A c t.f4 16 _ _ _ _ _ w hC hc (hk k (Nat.le_refl _))
set_option maxRecDepth 100000 in
set_option maxHeartbeats 400000 in
theorem small_any (t : Tree) (hf : Fit t) (A : Option Addr) (c : Nat) (w : World) (hC : Kd.C k24 w A t.f4.length t.f4) (hc : t.f4.length ≤ c) :
    Calls Tryd.prog 7 #[.agg #[.string t.f0, .int .i64 t.f1, .bool t.f2, .string t.f3, .slice A t.f4.length c]] w fun e w' => ∃ v4, e = .returned (.agg #[.string (smallP t).f0, .int .i64 (smallP t).f1, .bool (smallP t).f2, .string (smallP t).f3, v4]) ∧ Kd.R k24 24 w' w.heap.size (fun _ => True) v4 (smallP t).f4 ∧ Below w.heap.size w w' := by
  have hu := Tryd.underlying24
  have HC := Aside0.mk (fun W (h : Below w.heap.size w W) => call_cut t hf A c W (Kd.C_below hC h) hc)
  have HS := Aside0.mk (show smallP t = (fewT (cutP 16 t) 300).1 from rfl)
  clear hC hc
  generalize smallP t = s at *
  generalize cutP 16 t = x at *
  go_enter Tryd.func7, Tryd.ntmps7
  go_wp2_with fail
  have N0 := Aside0.mk (blk_alloc (heap_alloc_new w (.cells #[.string t.f0, .int .i64 t.f1, .bool t.f2, .string t.f3, .slice A t.f4.length c] 24)) zeroCells)
  have N1 := Aside0.mk (show ((w.alloc (.cells #[.string t.f0, .int .i64 t.f1, .bool t.f2, .string t.f3, .slice A t.f4.length c] 24)).alloc zeroCells).heap[w.heap.size + 1]? = some zeroCells from by
    have h := heap_alloc_new (w.alloc (.cells #[.string t.f0, .int .i64 t.f1, .bool t.f2, .string t.f3, .slice A t.f4.length c] 24)) zeroCells
    rwa [World.size_alloc] at h)
  have BL := Aside0.mk (below_alloc (below_alloc (Below.refl _ w) (.cells #[.string t.f0, .int .i64 t.f1, .bool t.f2, .string t.f3, .slice A t.f4.length c] 24)) (.cells #[.string ⟨#[]⟩, .int .i64 0, .bool false, .string ⟨#[]⟩, .slice none 0 0] 24))
  have HSZ := Aside0.mk (show ((w.alloc (.cells #[.string t.f0, .int .i64 t.f1, .bool t.f2, .string t.f3, .slice A t.f4.length c] 24)).alloc zeroCells).heap.size = w.heap.size + 2 from by simp)
  refine (HC.out _ BL.out).mono ?_
  rintro e w1 ⟨v4, rfl, hr, hb⟩
  obtain ⟨Ax, cx, rfl⟩ := Kd.R_slice hr
  have D0 := Aside0.mk (blk_below N0.out hb)
  have D1 := Aside0.mk (blk_below N1.out hb)
  have DB := Aside0.mk (below_then BL.out BL.out.size hb)
  have HR := Aside0.mk hr
  have HS1 := Aside0.mk (show w.heap.size + 2 ≤ w1.heap.size from by have := hb.size; simp only [World.size_alloc] at this; omega)
  clear hr hb N0 N1
  have z0 := (blk_cell D0.out 0).trans (rfl : _ = some (Value.string t.f0))
  have z1 := (blk_cell D0.out 1).trans (rfl : _ = some (Value.int .i64 t.f1))
  have z2 := (blk_cell D0.out 2).trans (rfl : _ = some (Value.bool t.f2))
  have z3 := (blk_cell D0.out 3).trans (rfl : _ = some (Value.string t.f3))
  have z4 := (blk_cell D0.out 4).trans (rfl : _ = some (Value.slice A t.f4.length c))
  have y0 := blk_nofreeze D0.out 0
  have y1 := blk_nofreeze D0.out 1
  have y2 := blk_nofreeze D0.out 2
  have y3 := blk_nofreeze D0.out 3
  have y4 := blk_nofreeze D0.out 4
  have hl0 : w.heap.size < w1.heap.size := by have := HS1.out; omega
  have hl1 : w.heap.size + 1 < w1.heap.size := by have := HS1.out; omega
  go_wp2_with fail
  clear z0 z1 z2 z3 z4 y0 y1 y2 y3 y4
  obtain ⟨W2, hW2⟩ : ∃ W2, (put5 w1 w.heap.size (.string x.f0) (.int .i64 x.f1) (.bool x.f2) (.string x.f3) (.slice Ax x.f4.length cx)).alloc (leftCell 300) = W2 := ⟨_, rfl⟩
  have E1 := Aside0.mk (show W2.heap[w.heap.size + 1]? = some zeroCells from by rw [← hW2]; exact blk_alloc ((put5_other (by omega) _ _ _ _ _).trans D1.out) _)
  have E2 := Aside0.mk (show W2.heap[w1.heap.size]? = some (leftCell 300) from by
    rw [← hW2]
    have h := heap_alloc_new (put5 w1 w.heap.size (.string x.f0) (.int .i64 x.f1) (.bool x.f2) (.string x.f3) (.slice Ax x.f4.length cx)) (leftCell 300)
    rwa [put5_size] at h)
  have EB := Aside0.mk (show Below w.heap.size w W2 from by
    rw [← hW2]
    exact below_alloc (put5_below DB.out (Nat.le_refl _) _ _ _ _ _) _)
  have EK := Aside0.mk (show ∀ k, k < w1.heap.size → k ≠ w.heap.size → W2.heap[k]? = w1.heap[k]? from fun k h1 h2 => by
    rw [← hW2]
    have h3 : k < (put5 w1 w.heap.size (.string x.f0) (.int .i64 x.f1) (.bool x.f2) (.string x.f3) (.slice Ax x.f4.length cx)).heap.size := by rw [put5_size]; exact h1
    exact ((below_alloc (Below.refl _ _) _).block k h3).trans (put5_other h2 _ _ _ _ _))
  have ES := Aside0.mk (show W2.heap.size = w1.heap.size + 1 from by rw [← hW2, World.size_alloc, put5_size])
  have HF := Aside0.mk (show x.f4.length ≤ cx ∧ Kd.F k24 W2 (fun k => k ≠ w1.heap.size) Ax x.f4.length x.f4 from by
    obtain ⟨h1, h2, h3⟩ := R_foot HR.out
    refine ⟨h2, Kd.F_mono (Kd.F_step h3 (fun k hk hlt => EK.out k hlt ?_)) (fun k hk => ?_)⟩
    · have := hk.1
      simp only [World.size_alloc] at this
      omega
    · have := hk.2
      omega)
  show Calls Tryd.prog 22 _ ((put5 w1 w.heap.size (.string x.f0) (.int .i64 x.f1) (.bool x.f2) (.string x.f3) (.slice Ax x.f4.length cx)).alloc (leftCell 300)) _
  rw [hW2]
  clear hW2
  refine (few_any w1.heap.size x 300 (Nat.le_refl 300) Ax cx W2 HF.out.2 HF.out.1 E2.out).mono ?_
  rintro e w3 ⟨v5, rfl, hr, hl, hk⟩
  rw [fewT_eq] at HS
  dsimp only at HS
  generalize (fewK x.f4 300).1 = ks at *
  have G1 := Aside0.mk ((hk.2 (w.heap.size + 1) (by have := ES.out; omega) (by omega)).trans E1.out)
  have GB := Aside0.mk (show Below w.heap.size w w3 from low_of EB.out hk.1 (fun k h1 h2 => hk.2 k h1 (by omega)))
  have HX := Aside0.mk hr
  obtain ⟨Ao, co, rfl⟩ := Kd.R_slice hr
  have g0 := (blk_cell G1.out 0).trans (rfl : _ = some (Value.string ⟨#[]⟩))
  have g1 := (blk_cell G1.out 1).trans (rfl : _ = some (Value.int .i64 0))
  have g2 := (blk_cell G1.out 2).trans (rfl : _ = some (Value.bool false))
  have g3 := (blk_cell G1.out 3).trans (rfl : _ = some (Value.string ⟨#[]⟩))
  have g4 := (blk_cell G1.out 4).trans (rfl : _ = some (Value.slice none 0 0))
  have u0 := blk_nofreeze G1.out 0
  have u1 := blk_nofreeze G1.out 1
  have u2 := blk_nofreeze G1.out 2
  have u3 := blk_nofreeze G1.out 3
  have u4 := blk_nofreeze G1.out 4
  clear hr hl hk
  go_wp2_with fail
  have HQ : (put5 w3 (w.heap.size + 1) (.string x.f0) (.int .i64 x.f1) (.bool x.f2) (.string x.f3) (.slice Ao ks.length co)).heap[w.heap.size + 1]? = some (.cells #[.string x.f0, .int .i64 x.f1, .bool x.f2, .string x.f3, .slice Ao ks.length co] 24 (0, 0)) := put5_at G1.out _ _ _ _ _
  refine bodyPost_ret (results_cell_row rfl _ _ (w.heap.size + 1) 24 #[.string x.f0, .int .i64 x.f1, .bool x.f2, .string x.f3, .slice Ao ks.length co] (0, 0) _ rfl HQ Tryd.underlying24 rfl (by kernel_rfl)) rfl ?_
  rw [HS.out]
  refine ⟨_, rfl, ?_, put5_below GB.out (Nat.le_succ _) _ _ _ _ _⟩
  refine Kd.R_lower (Kd.R_mono (Kd.R_step (Kd.R_bound HX.out) (fun k hk hlt => put5_other (by have := hk.2.1; have := ES.out; omega) _ _ _ _ _)) (fun _ _ => trivial)) ?_
  have := ES.out
  omega
end Go.Proofs.YtalljcjignaafaaDoor.PB
namespace Go.Proofs.YtalljcjignaafaaDoor.PB
open Go Go.RowKit Go.Proofs.YtalljcjignaafaaDoor Go.Proofs.YtalljcjignaafaaDoorW.PrintWords Go.Proofs.YtalljcjignaafaaDoorW.PrintLast Go.Proofs.YtalljcjignaafaaDoorW.PrintMore
set_option linter.unusedVariables false
set_option linter.unusedSimpArgs false
set_option maxRecDepth 100000 in
theorem file_x (a b : ByteArray) (w : World) : Calls Tryd.prog 17 #[.string a, .string b] w fun e w' => e = .returned (.agg #[.string a, .int .i64 1, .bool false, .string b, .slice none 0 0]) ∧ Below w.heap.size w w' := by
  have hu := Tryd.underlying24
  go_enter Tryd.func17, Tryd.ntmps17
  go_wp2_with fail
  refine bodyPost_ret (results_cell_row rfl _ _ w.heap.size 24 #[.string a, .int .i64 1, .bool false, .string b, .slice none 0 0] (0, 0) _ rfl (heap_alloc_new w _) Tryd.underlying24 rfl (by kernel_rfl)) rfl ?_
  exact ⟨rfl, below_alloc (Below.refl _ w) _⟩
set_option maxRecDepth 100000 in
theorem link_x (a b : ByteArray) (w : World) : Calls Tryd.prog 19 #[.string a, .string b] w fun e w' => e = .returned (.agg #[.string a, .int .i64 3, .bool false, .string b, .slice none 0 0]) ∧ Below w.heap.size w w' := by
  have hu := Tryd.underlying24
  go_enter Tryd.func19, Tryd.ntmps19
  go_wp2_with fail
  refine bodyPost_ret (results_cell_row rfl _ _ w.heap.size 24 #[.string a, .int .i64 3, .bool false, .string b, .slice none 0 0] (0, 0) _ rfl (heap_alloc_new w _) Tryd.underlying24 rfl (by kernel_rfl)) rfl ?_
  exact ⟨rfl, below_alloc (Below.refl _ w) _⟩
set_option maxRecDepth 100000 in
theorem dir_x (a : ByteArray) (A : Option Addr) (n c : Nat) (w : World) : Calls Tryd.prog 18 #[.string a, .slice A n c] w fun e w' => e = .returned (.agg #[.string a, .int .i64 2, .bool false, .string ⟨#[]⟩, .slice A n c]) ∧ Below w.heap.size w w' := by
  have hu := Tryd.underlying24
  go_enter Tryd.func18, Tryd.ntmps18
  go_wp2_with fail
  refine bodyPost_ret (results_cell_row rfl _ _ w.heap.size 24 #[.string a, .int .i64 2, .bool false, .string ⟨#[]⟩, .slice A n c] (0, 0) _ rfl (heap_alloc_new w _) Tryd.underlying24 rfl (by kernel_rfl)) rfl ?_
  exact ⟨rfl, below_alloc (Below.refl _ w) _⟩
end Go.Proofs.YtalljcjignaafaaDoor.PB
namespace Go.Proofs.YtalljcjignaafaaDoor.PB
open Go Go.RowKit Go.Proofs.YtalljcjignaafaaDoor Go.Proofs.YtalljcjignaafaaDoorW.PrintWords Go.Proofs.YtalljcjignaafaaDoorW.PrintLast Go.Proofs.YtalljcjignaafaaDoorW.PrintMore
set_option linter.unusedVariables false
set_option linter.unusedSimpArgs false
theorem add_blk (b n : Nat) : (⟨b, 0, none⟩ : Addr).add n = ⟨b, n, none⟩ := by
  unfold Addr.add
  split <;> simp_all
theorem C_block {α : Type} {d : Kd α} {w : World} {b T : Nat} {cs : List Value} {xs : List α} (hb : w.heap[b]? = some (.cells cs.toArray T (0, 0))) (h : Reps (d.K w) d.sz xs cs) (hm : xs.length ≤ 9223372036854775807) : d.C w (some ⟨b, 0, none⟩) xs.length xs := by
  refine ⟨rfl, hm, fun _ => ⟨⟨b, 0, none⟩, rfl, fun j p hj => ⟨_, d.K_len (h.2 j p hj), h.2 j p hj, fun i u hu => ?_⟩⟩⟩
  rw [List.getElem?_take] at hu
  split at hu
  · rw [List.getElem?_drop] at hu
    rw [add_blk]
    simp [World.cell?, hb, hu]
  · cases hu
theorem chk_calls (t : Tree) (hf : Fit t) (hz : Sized t) (A : Option Addr) (c : Nat) (w : World) (hC : Kd.C k24 w A t.f4.length t.f4) (hc : t.f4.length ≤ c) :
    Calls Tryd.prog 9 #[.agg #[.string t.f0, .int .i64 t.f1, .bool t.f2, .string t.f3, .slice A t.f4.length c]] w fun e w' => e = .returned (.int .i64 (checkP t)) ∧ Below w.heap.size w w' := by
  obtain ⟨k, hk⟩ := check_ev t hf hz
  exact tree_Check.calls k t.f0 t.f1 t.f2 t.f3 A c t.f4 _ w hC hc (hk k (Nat.le_refl _))
theorem size_calls (t : Tree) (hf : Fit t) (hm : mayP t = true) (hd : depthP t ≤ 12) (hz : sizeN t + sizeB t < 4611686018427387904) (A : Option Addr) (c : Nat) (w : World) (hC : Kd.C k24 w A t.f4.length t.f4) (hc : t.f4.length ≤ c) :
    Calls Tryd.prog 11 #[.agg #[.string t.f0, .int .i64 t.f1, .bool t.f2, .string t.f3, .slice A t.f4.length c]] w fun e w' => e = .returned (.tuple #[.int .i64 (sizeN t : Nat), .int .i64 (sizeB t : Nat)]) ∧ Below w.heap.size w w' := by
  obtain ⟨k, hk⟩ := Size_ev t hf hm hd hz
  exact tree_Size.calls k t.f0 t.f1 t.f2 t.f3 A c t.f4 _ _ w hC hc (hk k (Nat.le_refl _))
theorem deep_calls (t : Tree) (hf : Fit t) (A : Option Addr) (c : Nat) (w : World) (hC : Kd.C k24 w A t.f4.length t.f4) (hc : t.f4.length ≤ c) :
    Calls Tryd.prog 13 #[.agg #[.string t.f0, .int .i64 t.f1, .bool t.f2, .string t.f3, .slice A t.f4.length c]] w fun e w' => e = .returned (.int .i64 (min 14 (depthP t) : Nat)) ∧ Below w.heap.size w w' := by
  obtain ⟨k, hk⟩ := deep_ev 14 t hf (by omega) (by omega)
  have h := hk k (Nat.le_refl _)
  rw [deepP_depth 14 t (by omega)] at h
  dsimp only at h
  refine tree_Deep.calls k t.f0 t.f1 t.f2 t.f3 A c t.f4 _ w hC hc ?_
  unfold tree_Deep.f
  rw [show (14 : Int) = ((14 : Nat) : Int) from rfl, h]
  rfl
/-- Two lists of texts, alike. -/
def textsEq (a b : List ByteArray) : Bool := (a.map ByteArray.toList) == (b.map ByteArray.toList)
theorem texts_loop (a b : List ByteArray) (hl : a.length = b.length) (hm : a.length ≤ 9223372036854775806) :
    ∀ (n i : Nat), i + n = a.length → Ev (fun k => whiskref06_Texts.l0 k a b (i : Int)) (textsEq (a.drop i) (b.drop i))
  | 0, i, hi => by
    refine Ev.succ ((Ev.const true).congr (fun k => ?_) ?_)
    · rw [whiskref06_Texts.l0, if_neg (by omega)]
    · rw [List.drop_of_length_le (by omega), List.drop_of_length_le (by omega)]
      rfl
  | n + 1, i, hi => by
    have h1 : i < a.length := by omega
    have h2 : i < b.length := by omega
    have e1 : rdOf ByteArray.empty a (i : Int) = a[i] := by unfold rdOf; rw [Int.toNat_natCast, List.getD_eq_getElem?_getD, List.getElem?_eq_getElem h1]; rfl
    have e2 : rdOf ByteArray.empty b (i : Int) = b[i] := by unfold rdOf; rw [Int.toNat_natCast, List.getD_eq_getElem?_getD, List.getElem?_eq_getElem h2]; rfl
    have e3 : textsEq (a.drop i) (b.drop i) = (decide (a[i].toList = b[i].toList) && textsEq (a.drop (i + 1)) (b.drop (i + 1))) := by
      rw [List.drop_eq_getElem_cons h1, List.drop_eq_getElem_cons h2]
      unfold textsEq
      rw [List.map_cons, List.map_cons, Bool.eq_iff_iff]
      simp
    by_cases he : a[i].toList = b[i].toList
    · refine Ev.succ ((texts_loop a b hl hm n (i + 1) (by omega)).congr (fun k => ?_) ?_)
      · rw [whiskref06_Texts.l0, if_pos (by omega), if_pos (by omega), if_pos (by omega), e1, e2, if_pos he, wrap64_id ((i : Int) + 1) (by omega) (by omega)]
        rfl
      · rw [e3, decide_eq_true he, Bool.true_and]
    · refine Ev.succ ((Ev.const false).congr (fun k => ?_) ?_)
      · rw [whiskref06_Texts.l0, if_pos (by omega), if_pos (by omega), if_pos (by omega), e1, e2, if_neg he]
      · rw [e3, decide_eq_false he, Bool.false_and]
theorem textsEq_len (a b : List ByteArray) (h : a.length ≠ b.length) : textsEq a b = false := by
  unfold textsEq
  rw [beq_eq_false_iff_ne]
  intro e
  exact h (by simpa using congrArg List.length e)
theorem texts_calls (a b : List ByteArray) (hm : a.length ≤ 9223372036854775806) (A : Option Addr) (c : Nat) (B : Option Addr) (d : Nat) (w : World) (hA : Kd.C Kd.string w A a.length a) (hc : a.length ≤ c) (hB : Kd.C Kd.string w B b.length b) (hd : b.length ≤ d) :
    Calls Tryd.prog 20 #[.slice A a.length c, .slice B b.length d] w fun e w' => e = .returned (.bool (textsEq a b)) ∧ Below w.heap.size w w' := by
  have hev : Ev (fun k => whiskref06_Texts.f k a b) (textsEq a b) := by
    by_cases hl : a.length = b.length
    · refine (texts_loop a b hl hm a.length 0 (by omega)).congr (fun k => ?_) (by rw [List.drop_zero, List.drop_zero])
      unfold whiskref06_Texts.f
      rw [if_pos (by omega)]
      rfl
    · refine (Ev.const false).congr (fun k => ?_) (textsEq_len a b hl).symm
      unfold whiskref06_Texts.f
      rw [if_neg (by omega)]
  obtain ⟨k, hk⟩ := hev
  exact (whiskref06_Texts.calls k A c a B d b _ w hA hc hB hd (hk k (Nat.le_refl _))).mono fun e w' ⟨h1, h2⟩ => ⟨h1, h2.below⟩
end Go.Proofs.YtalljcjignaafaaDoor.PB

import Derived.Test.YtalljcjignaafaaDoorQTreeWays20
import Derived.Test.YtalljcjignaafaaDoorQTreeWays22
namespace Go.Proofs.YtalljcjignaafaaDoor.PB
open Go Go.RowKit Go.Proofs.YtalljcjignaafaaDoor Go.Proofs.YtalljcjignaafaaDoorW.PrintWords Go.Proofs.YtalljcjignaafaaDoorW.PrintLast Go.Proofs.YtalljcjignaafaaDoorW.PrintMore
set_option linter.unusedVariables false
set_option linter.unusedSimpArgs false
set_option maxRecDepth 100000 in
set_option maxHeartbeats 4000000 in
theorem ways_any (t : Tree) (hf : Fit t) (a b : ByteArray) (A : Option Addr) (c : Nat) (w : World) (hC : Kd.C k24 w A t.f4.length t.f4) (hc : t.f4.length ≤ c) :
    Calls Tryd.prog 3 #[.agg #[.string t.f0, .int .i64 t.f1, .bool t.f2, .string t.f3, .slice A t.f4.length c], .string a, .string b] w fun e w' => e = .returned (.bool true) ∧ Below w.heap.size w w' := by
  have hu := Tryd.underlying24
  have HS := Aside0.mk (fun W (h : Below w.heap.size w W) => small_any t hf A c W (Kd.C_below hC h) hc)
  have FS := Aside0.mk (small_fit t hf)
  clear hC hc
  generalize smallP t = s at *
  obtain ⟨a', ha'⟩ : ∃ x, a.extract 0 (min a.size 60) = x := ⟨_, rfl⟩
  obtain ⟨b', hb'⟩ : ∃ x, b.extract 0 (min b.size 60) = x := ⟨_, rfl⟩
  have ZA := Aside0.mk (show a'.size ≤ 60 from by rw [← ha', ByteArray.size_extract]; omega)
  have ZB := Aside0.mk (show b'.size ≤ 60 from by rw [← hb', ByteArray.size_extract]; omega)
  go_enter Tryd.func3, Tryd.ntmps3
  go_wp2_with fail
  have N0 := Aside0.mk (heap_alloc_new w (.cells #[.string t.f0, .int .i64 t.f1, .bool t.f2, .string t.f3, .slice A t.f4.length c] 24))
  have B0 := Aside0.mk (below_alloc (Below.refl _ w) (.cells #[.string t.f0, .int .i64 t.f1, .bool t.f2, .string t.f3, .slice A t.f4.length c] 24))
  refine (works_any _).mono ?_
  rintro e w1 ⟨rfl, hb⟩
  have N1 := Aside0.mk (blk_below N0.out hb)
  have B1 := Aside0.mk (below_then B0.out B0.out.size hb)
  clear hb N0 B0
  have z0 := (blk_cell N1.out 0).trans (rfl : _ = some (Value.string t.f0))
  have z1 := (blk_cell N1.out 1).trans (rfl : _ = some (Value.int .i64 t.f1))
  have z2 := (blk_cell N1.out 2).trans (rfl : _ = some (Value.bool t.f2))
  have z3 := (blk_cell N1.out 3).trans (rfl : _ = some (Value.string t.f3))
  have z4 := (blk_cell N1.out 4).trans (rfl : _ = some (Value.slice A t.f4.length c))
  go_wp2_with fail
  have LW1 := Aside0.mk (blk_lt N1.out)
  refine (HS.out _ B1.out).mono ?_
  rintro e w2 ⟨v4, rfl, hr, hb⟩
  obtain ⟨As, cs, rfl⟩ := Kd.R_slice hr
  have hfoot := R_foot hr
  have CS := Aside0.mk (And.intro (show s.f4.length ≤ cs from by have := hfoot.1; have := hfoot.2.1; omega) hfoot.2.2)
  have N2 := Aside0.mk (blk_below N1.out hb)
  have B2 := Aside0.mk (below_then B1.out B1.out.size hb)
  have LW := Aside0.mk (blk_lt N2.out)
  clear hb N1 z0 z1 z2 z3 z4 hr hfoot
  have z0 := (blk_cell N2.out 0).trans (rfl : _ = some (Value.string t.f0))
  have z1 := (blk_cell N2.out 1).trans (rfl : _ = some (Value.int .i64 t.f1))
  have z2 := (blk_cell N2.out 2).trans (rfl : _ = some (Value.bool t.f2))
  have z3 := (blk_cell N2.out 3).trans (rfl : _ = some (Value.string t.f3))
  have z4 := (blk_cell N2.out 4).trans (rfl : _ = some (Value.slice A t.f4.length c))
  have y0 := blk_nofreeze N2.out 0
  have y1 := blk_nofreeze N2.out 1
  have y2 := blk_nofreeze N2.out 2
  have y3 := blk_nofreeze N2.out 3
  have y4 := blk_nofreeze N2.out 4
  have CS2 := Aside0.mk (show Kd.C k24 (put5 w2 w.heap.size (.string s.f0) (.int .i64 s.f1) (.bool s.f2) (.string s.f3) (.slice As s.f4.length cs)) As s.f4.length s.f4 from Kd.F_now (Kd.F_step CS.out.2 (fun k hk hlt => put5_other (by have := hk.1; have := LW1.out; omega) _ _ _ _ _)))
  have HW3 := Aside0.mk (show (((((w2.setCell ⟨w.heap.size, 0, none⟩ (.string s.f0)).setCell ⟨w.heap.size, 1, none⟩ (.int .i64 s.f1)).setCell ⟨w.heap.size, 2, none⟩ (.bool s.f2)).setCell ⟨w.heap.size, 3, none⟩ (.string s.f3)).setCell ⟨w.heap.size, 4, none⟩ (.slice As s.f4.length cs)).heap[w.heap.size]? = some (nodeCells s As cs) ∧ Below w.heap.size w (((((w2.setCell ⟨w.heap.size, 0, none⟩ (.string s.f0)).setCell ⟨w.heap.size, 1, none⟩ (.int .i64 s.f1)).setCell ⟨w.heap.size, 2, none⟩ (.bool s.f2)).setCell ⟨w.heap.size, 3, none⟩ (.string s.f3)).setCell ⟨w.heap.size, 4, none⟩ (.slice As s.f4.length cs)) ∧ s.f4.length ≤ cs ∧ Kd.C k24 (((((w2.setCell ⟨w.heap.size, 0, none⟩ (.string s.f0)).setCell ⟨w.heap.size, 1, none⟩ (.int .i64 s.f1)).setCell ⟨w.heap.size, 2, none⟩ (.bool s.f2)).setCell ⟨w.heap.size, 3, none⟩ (.string s.f3)).setCell ⟨w.heap.size, 4, none⟩ (.slice As s.f4.length cs)) As s.f4.length s.f4 from ⟨put5_at N2.out _ _ _ _ _, put5_below B2.out (Nat.le_refl _) _ _ _ _ _, CS.out.1, CS2.out⟩)
  have hab : a'.size + b'.size ≤ 9223372036854775807 := by have := ZA.out; have := ZB.out; omega
  have hba : b'.size + a'.size ≤ 9223372036854775807 := by omega
  have ZA1 := Aside0.mk (show a'.size ≤ 4611686018427387904 from by have := ZA.out; omega)
  have ZB1 := Aside0.mk (show b'.size ≤ 4611686018427387904 from by have := ZB.out; omega)
  have ZAB := Aside0.mk (show (a' ++ b').size ≤ 4611686018427387904 from by rw [ByteArray.size_append]; have := ZA.out; have := ZB.out; omega)
  have ZBA := Aside0.mk (show (b' ++ a').size ≤ 4611686018427387904 from by rw [ByteArray.size_append]; have := ZA.out; have := ZB.out; omega)
  have ZJ := Aside0.mk (show (a' ++ ⟨#[47]⟩ ++ b').size ≤ 4611686018427387904 from by rw [ByteArray.size_append, ByteArray.size_append]; have h47 : (⟨#[47]⟩ : ByteArray).size = 1 := rfl; have := ZA.out; have := ZB.out; omega)
  have mA : (min (a.size : Int) 60).toNat = min a.size 60 := by omega
  have mB : (min (b.size : Int) 60).toNat = min b.size 60 := by omega
  cases hea : (a'.toList == ([] : List UInt8)) with
  | true =>
    have HP := Aside0.mk (show b' ++ a' = a' ++ b' from by
      have : a' = ⟨#[]⟩ := ba_inj (by rw [← tl_eq]; simpa using hea)
      subst this
      exact ba_inj (by simp))
    go_upto_region 7 with (fail)
    generalize (((((w2.setCell ⟨w.heap.size, 0, none⟩ (.string s.f0)).setCell ⟨w.heap.size, 1, none⟩ (.int .i64 s.f1)).setCell ⟨w.heap.size, 2, none⟩ (.bool s.f2)).setCell ⟨w.heap.size, 3, none⟩ (.string s.f3)).setCell ⟨w.heap.size, 4, none⟩ (.slice As s.f4.length cs)) = W3 at HW3 ⊢
    have N3 := Aside0.mk HW3.out.1
    have B3 := Aside0.mk HW3.out.2.1
    have C3 := Aside0.mk HW3.out.2.2
    clear N2 CS CS2 HW3 z0 z1 z2 z3 z4 y0 y1 y2 y3 y4 HS ha' hb' mA mB B1 LW1 LW
    have z0 := (blk_cell N3.out 0).trans (rfl : _ = some (Value.string s.f0))
    have z1 := (blk_cell N3.out 1).trans (rfl : _ = some (Value.int .i64 s.f1))
    have z2 := (blk_cell N3.out 2).trans (rfl : _ = some (Value.bool s.f2))
    have z3 := (blk_cell N3.out 3).trans (rfl : _ = some (Value.string s.f3))
    have z4 := (blk_cell N3.out 4).trans (rfl : _ = some (Value.slice As s.f4.length cs))
    go_wp2_with fail
    refine (find_any s FS.out (a' ++ b') ZAB.out As cs _ C3.out.2 C3.out.1).mono ?_
    rintro e V4 ⟨x4, X4, n4, rfl, hx, hXC, hXl, hb⟩
    have HX4 := Aside0.mk hx
    obtain ⟨W4, hW4⟩ : ∃ W4, V4.alloc (.cells #[.string x4.f0, .int .i64 x4.f1, .bool x4.f2, .string x4.f3, .slice X4 x4.f4.length n4] 24) = W4 := ⟨_, rfl⟩
    have hb4 := Aside0.mk (show Below W3.heap.size W3 W4 from by rw [← hW4]; exact below_alloc hb _)
    have P4 := Aside0.mk (show W4.heap[V4.heap.size]? = some (nodeCells x4 X4 n4) from by rw [← hW4]; exact heap_alloc_new V4 _)
    have K4 := Aside0.mk (show x4.f4.length ≤ n4 ∧ Kd.C k24 W4 X4 x4.f4.length x4.f4 from ⟨hXl, Kd.C_below hXC hb4.out⟩)
    have N4 := Aside0.mk (blk_below N3.out hb4.out)
    have B4 := Aside0.mk (below_then B3.out B3.out.size hb4.out)
    have C4 := Aside0.mk (And.intro C3.out.1 (Kd.C_below C3.out.2 hb4.out))
    clear hx hXC hXl hb
    clear z0 z1 z2 z3 z4
    have z0 := (blk_cell N4.out 0).trans (rfl : _ = some (Value.string s.f0))
    have z1 := (blk_cell N4.out 1).trans (rfl : _ = some (Value.int .i64 s.f1))
    have z2 := (blk_cell N4.out 2).trans (rfl : _ = some (Value.bool s.f2))
    have z3 := (blk_cell N4.out 3).trans (rfl : _ = some (Value.string s.f3))
    have z4 := (blk_cell N4.out 4).trans (rfl : _ = some (Value.slice As s.f4.length cs))
    go_wp2_with fail
    refine (find_any s FS.out (b' ++ a') ZBA.out As cs _ C4.out.2 C4.out.1).mono ?_
    rintro e V5 ⟨x5, X5, n5, rfl, hx, hXC, hXl, hb⟩
    have HX5 := Aside0.mk hx
    obtain ⟨W5, hW5⟩ : ∃ W5, V5.alloc (.cells #[.string x5.f0, .int .i64 x5.f1, .bool x5.f2, .string x5.f3, .slice X5 x5.f4.length n5] 24) = W5 := ⟨_, rfl⟩
    have hb5 := Aside0.mk (show Below W4.heap.size W4 W5 from by rw [← hW5]; exact below_alloc hb _)
    have P5 := Aside0.mk (show W5.heap[V5.heap.size]? = some (nodeCells x5 X5 n5) from by rw [← hW5]; exact heap_alloc_new V5 _)
    have K5 := Aside0.mk (show x5.f4.length ≤ n5 ∧ Kd.C k24 W5 X5 x5.f4.length x5.f4 from ⟨hXl, Kd.C_below hXC hb5.out⟩)
    have N5 := Aside0.mk (blk_below N4.out hb5.out)
    have B5 := Aside0.mk (below_then B4.out B4.out.size hb5.out)
    have C5 := Aside0.mk (And.intro C4.out.1 (Kd.C_below C4.out.2 hb5.out))
    clear hx hXC hXl hb
    have Q4 := Aside0.mk (blk_below P4.out hb5.out)
    have hxx : x5 = x4 := by rw [HX5.out, HX4.out, HP.out]
    subst hxx
    have hbb : (findR s (b' ++ a')).isSome = (findR s (a' ++ b')).isSome := by rw [HP.out]
    rw [hbb]
    clear hbb z0 z1 z2 z3 z4 HX4 HX5
    have f0 := (blk_cell Q4.out 0).trans (rfl : _ = some (Value.string x5.f0))
    have f1 := (blk_cell Q4.out 1).trans (rfl : _ = some (Value.int .i64 x5.f1))
    have g0 := (blk_cell P5.out 0).trans (rfl : _ = some (Value.string x5.f0))
    have g1 := (blk_cell P5.out 1).trans (rfl : _ = some (Value.int .i64 x5.f1))
    go_wp2_with fail
    go_ret
    exact ⟨rfl, B5.out⟩
  | false =>
    cases heb : (b'.toList == ([] : List UInt8)) with
    | true =>
      have HP := Aside0.mk (show b' ++ a' = a' ++ b' from by
        have : b' = ⟨#[]⟩ := ba_inj (by rw [← tl_eq]; simpa using heb)
        subst this
        exact ba_inj (by simp))
      go_upto_region 7 with (fail)
      generalize (((((w2.setCell ⟨w.heap.size, 0, none⟩ (.string s.f0)).setCell ⟨w.heap.size, 1, none⟩ (.int .i64 s.f1)).setCell ⟨w.heap.size, 2, none⟩ (.bool s.f2)).setCell ⟨w.heap.size, 3, none⟩ (.string s.f3)).setCell ⟨w.heap.size, 4, none⟩ (.slice As s.f4.length cs)) = W3 at HW3 ⊢
      have N3 := Aside0.mk HW3.out.1
      have B3 := Aside0.mk HW3.out.2.1
      have C3 := Aside0.mk HW3.out.2.2
      clear N2 CS CS2 HW3 z0 z1 z2 z3 z4 y0 y1 y2 y3 y4 HS ha' hb' mA mB B1 LW1 LW
      have z0 := (blk_cell N3.out 0).trans (rfl : _ = some (Value.string s.f0))
      have z1 := (blk_cell N3.out 1).trans (rfl : _ = some (Value.int .i64 s.f1))
      have z2 := (blk_cell N3.out 2).trans (rfl : _ = some (Value.bool s.f2))
      have z3 := (blk_cell N3.out 3).trans (rfl : _ = some (Value.string s.f3))
      have z4 := (blk_cell N3.out 4).trans (rfl : _ = some (Value.slice As s.f4.length cs))
      go_wp2_with fail
      refine (find_any s FS.out (a' ++ b') ZAB.out As cs _ C3.out.2 C3.out.1).mono ?_
      rintro e V4 ⟨x4, X4, n4, rfl, hx, hXC, hXl, hb⟩
      have HX4 := Aside0.mk hx
      obtain ⟨W4, hW4⟩ : ∃ W4, V4.alloc (.cells #[.string x4.f0, .int .i64 x4.f1, .bool x4.f2, .string x4.f3, .slice X4 x4.f4.length n4] 24) = W4 := ⟨_, rfl⟩
      have hb4 := Aside0.mk (show Below W3.heap.size W3 W4 from by rw [← hW4]; exact below_alloc hb _)
      have P4 := Aside0.mk (show W4.heap[V4.heap.size]? = some (nodeCells x4 X4 n4) from by rw [← hW4]; exact heap_alloc_new V4 _)
      have K4 := Aside0.mk (show x4.f4.length ≤ n4 ∧ Kd.C k24 W4 X4 x4.f4.length x4.f4 from ⟨hXl, Kd.C_below hXC hb4.out⟩)
      have N4 := Aside0.mk (blk_below N3.out hb4.out)
      have B4 := Aside0.mk (below_then B3.out B3.out.size hb4.out)
      have C4 := Aside0.mk (And.intro C3.out.1 (Kd.C_below C3.out.2 hb4.out))
      clear hx hXC hXl hb
      clear z0 z1 z2 z3 z4
      have z0 := (blk_cell N4.out 0).trans (rfl : _ = some (Value.string s.f0))
      have z1 := (blk_cell N4.out 1).trans (rfl : _ = some (Value.int .i64 s.f1))
      have z2 := (blk_cell N4.out 2).trans (rfl : _ = some (Value.bool s.f2))
      have z3 := (blk_cell N4.out 3).trans (rfl : _ = some (Value.string s.f3))
      have z4 := (blk_cell N4.out 4).trans (rfl : _ = some (Value.slice As s.f4.length cs))
      go_wp2_with fail
      refine (find_any s FS.out (b' ++ a') ZBA.out As cs _ C4.out.2 C4.out.1).mono ?_
      rintro e V5 ⟨x5, X5, n5, rfl, hx, hXC, hXl, hb⟩
      have HX5 := Aside0.mk hx
      obtain ⟨W5, hW5⟩ : ∃ W5, V5.alloc (.cells #[.string x5.f0, .int .i64 x5.f1, .bool x5.f2, .string x5.f3, .slice X5 x5.f4.length n5] 24) = W5 := ⟨_, rfl⟩
      have hb5 := Aside0.mk (show Below W4.heap.size W4 W5 from by rw [← hW5]; exact below_alloc hb _)
      have P5 := Aside0.mk (show W5.heap[V5.heap.size]? = some (nodeCells x5 X5 n5) from by rw [← hW5]; exact heap_alloc_new V5 _)
      have K5 := Aside0.mk (show x5.f4.length ≤ n5 ∧ Kd.C k24 W5 X5 x5.f4.length x5.f4 from ⟨hXl, Kd.C_below hXC hb5.out⟩)
      have N5 := Aside0.mk (blk_below N4.out hb5.out)
      have B5 := Aside0.mk (below_then B4.out B4.out.size hb5.out)
      have C5 := Aside0.mk (And.intro C4.out.1 (Kd.C_below C4.out.2 hb5.out))
      clear hx hXC hXl hb
      have Q4 := Aside0.mk (blk_below P4.out hb5.out)
      have hxx : x5 = x4 := by rw [HX5.out, HX4.out, HP.out]
      subst hxx
      have hbb : (findR s (b' ++ a')).isSome = (findR s (a' ++ b')).isSome := by rw [HP.out]
      rw [hbb]
      clear hbb z0 z1 z2 z3 z4 HX4 HX5
      have f0 := (blk_cell Q4.out 0).trans (rfl : _ = some (Value.string x5.f0))
      have f1 := (blk_cell Q4.out 1).trans (rfl : _ = some (Value.int .i64 x5.f1))
      have g0 := (blk_cell P5.out 0).trans (rfl : _ = some (Value.string x5.f0))
      have g1 := (blk_cell P5.out 1).trans (rfl : _ = some (Value.int .i64 x5.f1))
      go_wp2_with fail
      go_ret
      exact ⟨rfl, B5.out⟩
    | false =>
      have HNE := Aside0.mk (show a'.toList ≠ [] ∧ b'.toList ≠ [] from ⟨by simpa using hea, by simpa using heb⟩)
      have hj1 : a'.size + (⟨#[47]⟩ : ByteArray).size ≤ 9223372036854775807 := by
        have h47 : (⟨#[47]⟩ : ByteArray).size = 1 := rfl
        have := ZA.out
        omega
      have hj2 : (a' ++ ⟨#[47]⟩).size + b'.size ≤ 9223372036854775807 := by
        have h47 : (⟨#[47]⟩ : ByteArray).size = 1 := rfl
        have := ZA.out
        have := ZB.out
        rw [ByteArray.size_append]
        omega
      go_upto_region 10 with (fail)
      generalize (((((w2.setCell ⟨w.heap.size, 0, none⟩ (.string s.f0)).setCell ⟨w.heap.size, 1, none⟩ (.int .i64 s.f1)).setCell ⟨w.heap.size, 2, none⟩ (.bool s.f2)).setCell ⟨w.heap.size, 3, none⟩ (.string s.f3)).setCell ⟨w.heap.size, 4, none⟩ (.slice As s.f4.length cs)) = W3 at HW3 ⊢
      have N3 := Aside0.mk HW3.out.1
      have B3 := Aside0.mk HW3.out.2.1
      have C3 := Aside0.mk HW3.out.2.2
      clear N2 CS CS2 HW3 z0 z1 z2 z3 z4 y0 y1 y2 y3 y4 HS ha' hb' mA mB B1 LW1 LW
      have z0 := (blk_cell N3.out 0).trans (rfl : _ = some (Value.string s.f0))
      have z1 := (blk_cell N3.out 1).trans (rfl : _ = some (Value.int .i64 s.f1))
      have z2 := (blk_cell N3.out 2).trans (rfl : _ = some (Value.bool s.f2))
      have z3 := (blk_cell N3.out 3).trans (rfl : _ = some (Value.string s.f3))
      have z4 := (blk_cell N3.out 4).trans (rfl : _ = some (Value.slice As s.f4.length cs))
      go_wp2_with fail
      refine (find_any s FS.out (a' ++ (⟨#[47]⟩ : ByteArray) ++ b') ZJ.out As cs _ C3.out.2 C3.out.1).mono ?_
      rintro e V4 ⟨x4, X4, n4, rfl, hx, hXC, hXl, hb⟩
      have HX4 := Aside0.mk hx
      obtain ⟨W4, hW4⟩ : ∃ W4, V4.alloc (.cells #[.string x4.f0, .int .i64 x4.f1, .bool x4.f2, .string x4.f3, .slice X4 x4.f4.length n4] 24) = W4 := ⟨_, rfl⟩
      have hb4 := Aside0.mk (show Below W3.heap.size W3 W4 from by rw [← hW4]; exact below_alloc hb _)
      have P4 := Aside0.mk (show W4.heap[V4.heap.size]? = some (nodeCells x4 X4 n4) from by rw [← hW4]; exact heap_alloc_new V4 _)
      have K4 := Aside0.mk (show x4.f4.length ≤ n4 ∧ Kd.C k24 W4 X4 x4.f4.length x4.f4 from ⟨hXl, Kd.C_below hXC hb4.out⟩)
      have N4 := Aside0.mk (blk_below N3.out hb4.out)
      have B4 := Aside0.mk (below_then B3.out B3.out.size hb4.out)
      have C4 := Aside0.mk (And.intro C3.out.1 (Kd.C_below C3.out.2 hb4.out))
      clear hx hXC hXl hb
      clear z0 z1 z2 z3 z4
      have z0 := (blk_cell N4.out 0).trans (rfl : _ = some (Value.string s.f0))
      have z1 := (blk_cell N4.out 1).trans (rfl : _ = some (Value.int .i64 s.f1))
      have z2 := (blk_cell N4.out 2).trans (rfl : _ = some (Value.bool s.f2))
      have z3 := (blk_cell N4.out 3).trans (rfl : _ = some (Value.string s.f3))
      have z4 := (blk_cell N4.out 4).trans (rfl : _ = some (Value.slice As s.f4.length cs))
      go_wp2_with fail
      refine (find_any s FS.out a' ZA1.out As cs _ C4.out.2 C4.out.1).mono ?_
      rintro e V5 ⟨x5, X5, n5, rfl, hx, hXC, hXl, hb⟩
      have HX5 := Aside0.mk hx
      obtain ⟨W5, hW5⟩ : ∃ W5, V5.alloc (.cells #[.string x5.f0, .int .i64 x5.f1, .bool x5.f2, .string x5.f3, .slice X5 x5.f4.length n5] 24) = W5 := ⟨_, rfl⟩
      have hb5 := Aside0.mk (show Below W4.heap.size W4 W5 from by rw [← hW5]; exact below_alloc hb _)
      have P5 := Aside0.mk (show W5.heap[V5.heap.size]? = some (nodeCells x5 X5 n5) from by rw [← hW5]; exact heap_alloc_new V5 _)
      have K5 := Aside0.mk (show x5.f4.length ≤ n5 ∧ Kd.C k24 W5 X5 x5.f4.length x5.f4 from ⟨hXl, Kd.C_below hXC hb5.out⟩)
      have N5 := Aside0.mk (blk_below N4.out hb5.out)
      have B5 := Aside0.mk (below_then B4.out B4.out.size hb5.out)
      have C5 := Aside0.mk (And.intro C4.out.1 (Kd.C_below C4.out.2 hb5.out))
      clear hx hXC hXl hb
      have Q4 := Aside0.mk (blk_below P4.out hb5.out)
      clear z0 z1 z2 z3 z4
      have HJ := Aside0.mk (findR_join s a' b' HNE.out.1 HNE.out.2)
      cases hr : findR s a' with
      | none =>
        rw [hr] at HX5 HJ
        have hxx : x4 = z24 := by rw [HX4.out, HJ.out]; rfl
        subst hxx
        have hbb : (findR s (a' ++ ⟨#[47]⟩ ++ b')).isSome = false := by rw [HJ.out]; rfl
        rw [hbb]
        clear hr hbb HX4 HX5
        have f1 := (blk_cell Q4.out 1).trans (rfl : _ = some (Value.int .i64 0))
        go_wp2_with fail
        go_ret
        exact ⟨rfl, B5.out⟩
      | some y =>
        rw [hr] at HX5 HJ
        have hxx : x5 = y := HX5.out
        subst hxx
        have FY := Aside0.mk (findR_fit FS.out hr)
        clear hr HX5
        have z0 := (blk_cell P5.out 0).trans (rfl : _ = some (Value.string x5.f0))
        have z1 := (blk_cell P5.out 1).trans (rfl : _ = some (Value.int .i64 x5.f1))
        have z2 := (blk_cell P5.out 2).trans (rfl : _ = some (Value.bool x5.f2))
        have z3 := (blk_cell P5.out 3).trans (rfl : _ = some (Value.string x5.f3))
        have z4 := (blk_cell P5.out 4).trans (rfl : _ = some (Value.slice X5 x5.f4.length n5))
        go_wp2_with fail
        refine (find_any x5 FY.out b' ZB1.out X5 n5 _ K5.out.2 K5.out.1).mono ?_
        rintro e V6 ⟨x6, X6, n6, rfl, hx, hXC, hXl, hb⟩
        have HX6 := Aside0.mk hx
        obtain ⟨W6, hW6⟩ : ∃ W6, V6.alloc (.cells #[.string x6.f0, .int .i64 x6.f1, .bool x6.f2, .string x6.f3, .slice X6 x6.f4.length n6] 24) = W6 := ⟨_, rfl⟩
        have hb6 := Aside0.mk (show Below W5.heap.size W5 W6 from by rw [← hW6]; exact below_alloc hb _)
        have P6 := Aside0.mk (show W6.heap[V6.heap.size]? = some (nodeCells x6 X6 n6) from by rw [← hW6]; exact heap_alloc_new V6 _)
        have K6 := Aside0.mk (show x6.f4.length ≤ n6 ∧ Kd.C k24 W6 X6 x6.f4.length x6.f4 from ⟨hXl, Kd.C_below hXC hb6.out⟩)
        have N6 := Aside0.mk (blk_below N5.out hb6.out)
        have B6 := Aside0.mk (below_then B5.out B5.out.size hb6.out)
        have C6 := Aside0.mk (And.intro C5.out.1 (Kd.C_below C5.out.2 hb6.out))
        clear hx hXC hXl hb
        have R4 := Aside0.mk (blk_below Q4.out hb6.out)
        clear z0 z1 z2 z3 z4
        have hxx : x6 = x4 := by rw [HX6.out, HX4.out, HJ.out]; rfl
        subst hxx
        have hbb : (findR s (a' ++ ⟨#[47]⟩ ++ b')).isSome = (findR x5 b').isSome := by rw [HJ.out]; rfl
        rw [hbb]
        clear hbb HX4 HX6 HJ
        have f0 := (blk_cell R4.out 0).trans (rfl : _ = some (Value.string x6.f0))
        have f1 := (blk_cell R4.out 1).trans (rfl : _ = some (Value.int .i64 x6.f1))
        have f3 := (blk_cell R4.out 3).trans (rfl : _ = some (Value.string x6.f3))
        have f4 := (blk_cell R4.out 4).trans (rfl : _ = some (Value.slice X4 x6.f4.length n4))
        have g0 := (blk_cell P6.out 0).trans (rfl : _ = some (Value.string x6.f0))
        have g1 := (blk_cell P6.out 1).trans (rfl : _ = some (Value.int .i64 x6.f1))
        have g3 := (blk_cell P6.out 3).trans (rfl : _ = some (Value.string x6.f3))
        have g4 := (blk_cell P6.out 4).trans (rfl : _ = some (Value.slice X6 x6.f4.length n6))
        go_wp2_with fail
        go_ret
        exact ⟨rfl, B6.out⟩
end Go.Proofs.YtalljcjignaafaaDoor.PB

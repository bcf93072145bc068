import Derived.Test.YtalljcjignaafaaDoorQTreeKnown8
import Derived.Test.YtalljcjignaafaaDoorQTreeKnown9
import Derived.Test.YtalljcjignaafaaDoorQTreeKnown10
import Derived.Test.YtalljcjignaafaaDoorQTreeKnown14
namespace Go.Proofs.YtalljcjignaafaaDoor.PB
open Go.RowKit Go.Proofs.YtalljcjignaafaaDoorW.PrintWords Go.Proofs.YtalljcjignaafaaDoorW.PrintLast Go.Proofs.YtalljcjignaafaaDoorW.PrintMore
attribute [local go_sem] max2_int min2_int max_two min_two max_three min_three max_four min_four   -- for this text's walks alone
set_option linter.unusedVariables false
set_option linter.unusedSimpArgs false
noncomputable def tree_Check.j0 : Nat → Bool → ByteArray → Int → Bool → ByteArray → List (S24) → Option (Int)
  | 0, _, _, _, _, _, _ => none
  | k + 1, x8, x133000, x133001, x133002, x133003, x133004 => if x8 = true then (some 2) else ((tree_Size.f k x133000 x133001 x133002 x133003 x133004).bind fun bt135 => (if bt135.1 > 2000 then (some 3) else (if bt135.2 > 100000 then (some 3) else (some 0))))
noncomputable def tree_Check.f (k : Nat) (a0_0 : ByteArray) (a0_1 : Int) (a0_2 : Bool) (a0_3 : ByteArray) (l0_4 : List (S24)) : Option (Int) := (tree_tooDeep.f k a0_0 a0_1 a0_2 a0_3 l0_4).bind fun t133 => (if t133 = true then (some 3) else (if a0_0.toList = ([] : List UInt8) then ((tree_may.f a0_0 a0_1 a0_2 a0_3 l0_4).bind fun t134 => (tree_Check.j0 k (!t134) a0_0 a0_1 a0_2 a0_3 l0_4)) else (tree_Check.j0 k true a0_0 a0_1 a0_2 a0_3 l0_4)))
theorem tree_Check.mono_l : ∀ k, (∀ y0 y1 y2 y3 y4 y5, LeO (tree_Check.j0 k y0 y1 y2 y3 y4 y5) (tree_Check.j0 (k + 1) y0 y1 y2 y3 y4 y5))
  | 0 => fun _ _ _ _ _ _ r h => by simp [tree_Check.j0] at h
  | k + 1 => by
    have ih0 := tree_Check.mono_l k
    · intro y0 y1 y2 y3 y4 y5
      unfold tree_Check.j0
      repeat' first
      | (with_reducible exact ih0 _ _ _ _ _ _)
      | (with_reducible exact tree_Size.mono _ _ _ _ _ _)
      | (with_reducible exact tree_tooDeep.mono _ _ _ _ _ _)
      | (with_reducible exact LeO.refl _)
      | (with_reducible exact LeO.none _)
      | (with_reducible refine LeO.ite ?_ ?_)
      | (with_reducible refine LeO.bind ?_ (fun _ => ?_))
      | exact ih0 _ _ _ _ _ _
      | exact tree_Size.mono _ _ _ _ _ _
      | exact tree_tooDeep.mono _ _ _ _ _ _
      | exact LeO.none _
      | refine LeO.ite ?_ ?_
      | refine LeO.bind ?_ (fun _ => ?_)
theorem tree_Check.mono : ∀ a0 a1 a2 a3 a4 k, LeO (tree_Check.f k a0 a1 a2 a3 a4) (tree_Check.f (k + 1) a0 a1 a2 a3 a4) := by
  intro a0 a1 a2 a3 a4 k
  have ih0 := tree_Check.mono_l k
  unfold tree_Check.f
  repeat' first
      | (with_reducible exact ih0 _ _ _ _ _ _)
      | (with_reducible exact tree_Size.mono _ _ _ _ _ _)
      | (with_reducible exact tree_tooDeep.mono _ _ _ _ _ _)
      | (with_reducible exact LeO.refl _)
      | (with_reducible exact LeO.none _)
      | (with_reducible refine LeO.ite ?_ ?_)
      | (with_reducible refine LeO.bind ?_ (fun _ => ?_))
      | exact ih0 _ _ _ _ _ _
      | exact tree_Size.mono _ _ _ _ _ _
      | exact tree_tooDeep.mono _ _ _ _ _ _
      | exact LeO.none _
      | refine LeO.ite ?_ ?_
      | refine LeO.bind ?_ (fun _ => ?_)
set_option maxHeartbeats 8000000 in
set_option maxRecDepth 100000 in
theorem tree_Check.calls (k : Nat) (a0_0 : ByteArray) (a0_1 : Int) (a0_2 : Bool) (a0_3 : ByteArray) (A0_4 : Option Addr) (c0_4 : Nat) (l0_4 : List (S24)) (r : Int) (w : World) (hr0_4 : Kd.C k24 w A0_4 l0_4.length l0_4) (hc0_4 : l0_4.length ≤ c0_4) (h : tree_Check.f k a0_0 a0_1 a0_2 a0_3 l0_4 = some r) :
    Calls Tryd.prog 9 #[.agg #[.string a0_0, .int .i64 a0_1, .bool a0_2, .string a0_3, .slice A0_4 l0_4.length c0_4]] w fun e w' => e = .returned (.int .i64 r) ∧ Below w.heap.size w w' := by
  have hu24 := Tryd.underlying24
  have HR0_4 := Aside0.mk hr0_4
  have HC0_4 := Aside0.mk hc0_4
  clear hr0_4 hc0_4
  have HB := Aside0.mk (Below.refl w.heap.size w)
  have H : ((tree_tooDeep.f k a0_0 a0_1 a0_2 a0_3 l0_4).bind fun t133 => (if t133 = true then (some 3) else (if a0_0.toList = ([] : List UInt8) then ((tree_may.f a0_0 a0_1 a0_2 a0_3 l0_4).bind fun t134 => (tree_Check.j0 k (!t134) a0_0 a0_1 a0_2 a0_3 l0_4)) else (tree_Check.j0 k true a0_0 a0_1 a0_2 a0_3 l0_4)))) = some r := h
  clear h
  replace H := Option.bind_eq_some_iff.mp H
  obtain ⟨t133, A20, H⟩ := H
  replace H : (if t133 = true then (some 3) else (if a0_0.toList = ([] : List UInt8) then ((tree_may.f a0_0 a0_1 a0_2 a0_3 l0_4).bind fun t134 => (tree_Check.j0 k (!t134) a0_0 a0_1 a0_2 a0_3 l0_4)) else (tree_Check.j0 k true a0_0 a0_1 a0_2 a0_3 l0_4))) = some r := H
  have A2 := Aside0.mk A20
  clear A20
  by_cases c3 : t133 = true
  · subst c3
    have H1 : (some 3) = some r := by rw [if_pos rfl] at H; exact H
    clear H
    have H := H1
    clear H1
    obtain rfl := Option.some.inj H
    go_enter Tryd.func9, Tryd.ntmps9
    go_wp2_with (first | ((with_reducible refine gate_dst (N := 1) rfl ?_); refine box_event ?hg (N := 1) ?hd (cs := #[.string a0_0, .int .i64 a0_1, .bool a0_2, .string a0_3, .slice A0_4 l0_4.length c0_4]) (t := 24) ?hr ?_; (case hd => rfl); (case hg => rfl); (case hr => first | (go_simp; done) | (go_simp; rfl)); intro gb132 hg w4 hbox hb; have n0_ := Aside0.mk (below_step (by repeat (first | (with_reducible first | exact HB.out | apply below_alloc | apply pw_below_drewN | apply below_drew1) | exact HB.out)) hb); have n1_ := Aside0.mk (hbox); have n2_ := Aside0.mk ((by rw [hg]; exact (below_size (by repeat (first | (with_reducible first | exact HB.out | apply below_alloc | apply pw_below_drewN | apply below_drew1) | exact HB.out))) : w.heap.size ≤ gb132)); have n3_ := Aside0.mk ((by rw [hg]; exact (below_size (by repeat (first | (with_reducible first | exact HB.out | apply below_alloc | apply pw_below_drewN | apply below_drew1) | exact HB.out))) : w.heap.size ≤ gb132)); clear HB; have HB := n0_; have BK132 := n1_; have GW132 := n2_; have GE132 := n3_; clear n0_ n1_ n2_ n3_; clear hb hbox hg; have hcz5_0 : w4.cell? ⟨gb132, 0, none⟩ = some (.string a0_0) := (blk_cell BK132.out 0).trans rfl; have hcz5_1 : w4.cell? ⟨gb132, 1, none⟩ = some (.int .i64 a0_1) := (blk_cell BK132.out 1).trans rfl; have hcz5_2 : w4.cell? ⟨gb132, 2, none⟩ = some (.bool a0_2) := (blk_cell BK132.out 2).trans rfl; have hcz5_3 : w4.cell? ⟨gb132, 3, none⟩ = some (.string a0_3) := (blk_cell BK132.out 3).trans rfl; have hcz5_4 : w4.cell? ⟨gb132, 4, none⟩ = some (.slice A0_4 l0_4.length c0_4) := (blk_cell BK132.out 4).trans rfl; have hfz5_0 := blk_frozen BK132.out 0; have hfz5_1 := blk_frozen BK132.out 1; have hfz5_2 := blk_frozen BK132.out 2; have hfz5_3 := blk_frozen BK132.out 3; have hfz5_4 := blk_frozen BK132.out 4) | ((with_reducible refine gate_callee (f := 26) rfl ?_); refine goesL_ (some 7) rfl rfl Tryd.func26 (by kernel_rfl) rfl #[.agg #[.string a0_0, .int .i64 a0_1, .bool a0_2, .string a0_3, .slice A0_4 l0_4.length c0_4]] rfl (by (try simp only [List.map_toArray, List.map_cons, List.map_nil]); first | done | rfl | (simp only [List.length_drop, List.length_take]; rfl)) ?_; (with_reducible refine (tree_tooDeep.calls k a0_0 a0_1 a0_2 a0_3 _ _ l0_4 true _ ?side1 ?side2 A2.out).mono ?_); (case side1 => repeat (first | exact (Kd.C_below HR0_4.out HB.out) | (with_reducible refine Kd.C_alloc ?_ _) | (with_reducible refine Kd.C_drewN ?_ _) | (with_reducible refine Kd.C_drew ?_))); (case side2 => exact HC0_4.out); rintro e w6 ⟨rfl, hb⟩; refine ⟨_, rfl, ?_⟩; have n0_ := Aside0.mk (blk_below (g := gb132) (o := .cells #[.string a0_0, .int .i64 a0_1, .bool a0_2, .string a0_3, .slice A0_4 l0_4.length c0_4] 24 (0, 0)) (by (with_reducible repeat (first | refine blk_drewN ?_ _ | refine blk_drew ?_ | refine blk_alloc ?_ _)); exact BK132.out) hb); have n1_ := Aside0.mk (below_step (by repeat (first | (with_reducible first | exact HB.out | apply below_alloc | apply pw_below_drewN | apply below_drew1 | refine below_set ?_ GE132.out) | exact HB.out)) hb); clear BK132; clear HB; have BK132 := n0_; have HB := n1_; clear n0_ n1_; (try clear hb); (try clear hb2); (try clear hk); (try clear hi)))
    go_ret
    exact ⟨by first | rfl | (simp [errW_none, errW_some] <;> rfl) | (simp [*, errW_none, errW_some] <;> rfl), by repeat (first | (with_reducible first | exact HB.out | apply below_alloc | apply pw_below_drewN | apply below_drew1 | refine below_set ?_ GE132.out) | exact HB.out)⟩
  · replace c3 := Bool.eq_false_iff.mpr c3
    subst c3
    have H1 : (if a0_0.toList = ([] : List UInt8) then ((tree_may.f a0_0 a0_1 a0_2 a0_3 l0_4).bind fun t134 => (tree_Check.j0 k (!t134) a0_0 a0_1 a0_2 a0_3 l0_4)) else (tree_Check.j0 k true a0_0 a0_1 a0_2 a0_3 l0_4)) = some r := by rw [if_neg (show ¬ (false = true) by decide)] at H; exact H
    clear H
    have H := H1
    clear H1
    have HC7 := Aside0.mk H
    clear H
    go_enter Tryd.func9, Tryd.ntmps9
    go_upto_region 3 with (first | ((with_reducible refine gate_dst (N := 1) rfl ?_); refine box_event ?hg (N := 1) ?hd (cs := #[.string a0_0, .int .i64 a0_1, .bool a0_2, .string a0_3, .slice A0_4 l0_4.length c0_4]) (t := 24) ?hr ?_; (case hd => rfl); (case hg => rfl); (case hr => first | (go_simp; done) | (go_simp; rfl)); intro gb132 hg w8 hbox hb; have n0_ := Aside0.mk (below_step (by repeat (first | (with_reducible first | exact HB.out | apply below_alloc | apply pw_below_drewN | apply below_drew1) | exact HB.out)) hb); have n1_ := Aside0.mk (hbox); have n2_ := Aside0.mk ((by rw [hg]; exact (below_size (by repeat (first | (with_reducible first | exact HB.out | apply below_alloc | apply pw_below_drewN | apply below_drew1) | exact HB.out))) : w.heap.size ≤ gb132)); have n3_ := Aside0.mk ((by rw [hg]; exact (below_size (by repeat (first | (with_reducible first | exact HB.out | apply below_alloc | apply pw_below_drewN | apply below_drew1) | exact HB.out))) : w.heap.size ≤ gb132)); clear HB; have HB := n0_; have BK132 := n1_; have GW132 := n2_; have GE132 := n3_; clear n0_ n1_ n2_ n3_; clear hb hbox hg; have hcz9_0 : w8.cell? ⟨gb132, 0, none⟩ = some (.string a0_0) := (blk_cell BK132.out 0).trans rfl; have hcz9_1 : w8.cell? ⟨gb132, 1, none⟩ = some (.int .i64 a0_1) := (blk_cell BK132.out 1).trans rfl; have hcz9_2 : w8.cell? ⟨gb132, 2, none⟩ = some (.bool a0_2) := (blk_cell BK132.out 2).trans rfl; have hcz9_3 : w8.cell? ⟨gb132, 3, none⟩ = some (.string a0_3) := (blk_cell BK132.out 3).trans rfl; have hcz9_4 : w8.cell? ⟨gb132, 4, none⟩ = some (.slice A0_4 l0_4.length c0_4) := (blk_cell BK132.out 4).trans rfl; have hfz9_0 := blk_frozen BK132.out 0; have hfz9_1 := blk_frozen BK132.out 1; have hfz9_2 := blk_frozen BK132.out 2; have hfz9_3 := blk_frozen BK132.out 3; have hfz9_4 := blk_frozen BK132.out 4) | ((with_reducible refine gate_callee (f := 26) rfl ?_); refine goesL_ (some 7) rfl rfl Tryd.func26 (by kernel_rfl) rfl #[.agg #[.string a0_0, .int .i64 a0_1, .bool a0_2, .string a0_3, .slice A0_4 l0_4.length c0_4]] rfl (by (try simp only [List.map_toArray, List.map_cons, List.map_nil]); first | done | rfl | (simp only [List.length_drop, List.length_take]; rfl)) ?_; (with_reducible refine (tree_tooDeep.calls k a0_0 a0_1 a0_2 a0_3 _ _ l0_4 false _ ?side1 ?side2 A2.out).mono ?_); (case side1 => repeat (first | exact (Kd.C_below HR0_4.out HB.out) | (with_reducible refine Kd.C_alloc ?_ _) | (with_reducible refine Kd.C_drewN ?_ _) | (with_reducible refine Kd.C_drew ?_))); (case side2 => exact HC0_4.out); rintro e w10 ⟨rfl, hb⟩; refine ⟨_, rfl, ?_⟩; have n0_ := Aside0.mk (blk_below (g := gb132) (o := .cells #[.string a0_0, .int .i64 a0_1, .bool a0_2, .string a0_3, .slice A0_4 l0_4.length c0_4] 24 (0, 0)) (by (with_reducible repeat (first | refine blk_drewN ?_ _ | refine blk_drew ?_ | refine blk_alloc ?_ _)); exact BK132.out) hb); have n1_ := Aside0.mk (below_step (by repeat (first | (with_reducible first | exact HB.out | apply below_alloc | apply pw_below_drewN | apply below_drew1 | refine below_set ?_ GE132.out) | exact HB.out)) hb); clear BK132; clear HB; have BK132 := n0_; have HB := n1_; clear n0_ n1_; (try clear hb); (try clear hb2); (try clear hk); (try clear hi)))
    (try simp only [Act.put, List.setIfInBounds_toArray, List.set_cons_zero, List.set_cons_succ])
    go_cut [8] (fun v8 wc => ∃ (kq : Nat) (x8_6 : Bool), v8 = .bool x8_6 ∧ Aside0 (tree_Check.j0 kq x8_6 a0_0 a0_1 a0_2 a0_3 l0_4 = some r) ∧ Aside0 (kq ≤ k) ∧ Aside0 (wc.heap[gb132]? = some (.cells #[.string a0_0, .int .i64 a0_1, .bool a0_2, .string a0_3, (.slice A0_4 l0_4.length c0_4)] 24 (0, 0))) ∧ Aside0 (Below w.heap.size w wc))
    case first =>
      have H := HC7.out
      clear HC7
      by_cases c11 : a0_0.toList = ([] : List UInt8)
      · rw [if_pos c11] at H
        have c11b0 : (a0_0.toList == ([] : List UInt8)) = true := beq_iff_eq.mpr c11
        have c11b1 : (a0_0.toList != ([] : List UInt8)) = false := bne_eq_false_iff_eq.mpr c11
        clear c11
        (first | rw [c11b0] | (simp only [i64_w, i32_w]; rw [c11b0]) | skip)
        replace H := Option.bind_eq_some_iff.mp H
        obtain ⟨t134, A120, H⟩ := H
        replace H : (tree_Check.j0 k (!t134) a0_0 a0_1 a0_2 a0_3 l0_4) = some r := H
        have A12 := Aside0.mk A120
        clear A120
        have H' := Aside0.mk H
        clear H
        have hcz13_0 : w10.cell? ⟨gb132, 0, none⟩ = some (.string a0_0) := (blk_cell BK132.out 0).trans rfl
        have hcz13_1 : w10.cell? ⟨gb132, 1, none⟩ = some (.int .i64 a0_1) := (blk_cell BK132.out 1).trans rfl
        have hcz13_2 : w10.cell? ⟨gb132, 2, none⟩ = some (.bool a0_2) := (blk_cell BK132.out 2).trans rfl
        have hcz13_3 : w10.cell? ⟨gb132, 3, none⟩ = some (.string a0_3) := (blk_cell BK132.out 3).trans rfl
        have hcz13_4 : w10.cell? ⟨gb132, 4, none⟩ = some (.slice A0_4 l0_4.length c0_4) := (blk_cell BK132.out 4).trans rfl
        have hfz13_0 := blk_frozen BK132.out 0
        have hfz13_1 := blk_frozen BK132.out 1
        have hfz13_2 := blk_frozen BK132.out 2
        have hfz13_3 := blk_frozen BK132.out 3
        have hfz13_4 := blk_frozen BK132.out 4
        go_wp2_with (first | (go_at_call 27; (with_reducible refine (tree_may.calls a0_0 a0_1 a0_2 a0_3 _ _ l0_4 t134 _ ?side1 ?side2 A12.out).mono ?_); (case side1 => repeat (first | exact (Kd.C_below HR0_4.out HB.out) | (with_reducible refine Kd.C_alloc ?_ _) | (with_reducible refine Kd.C_drewN ?_ _) | (with_reducible refine Kd.C_drew ?_))); (case side2 => exact HC0_4.out); rintro e w14 ⟨rfl, hb⟩; have n0_ := Aside0.mk (blk_below (g := gb132) (o := .cells #[.string a0_0, .int .i64 a0_1, .bool a0_2, .string a0_3, .slice A0_4 l0_4.length c0_4] 24 (0, 0)) (by (with_reducible repeat (first | refine blk_drewN ?_ _ | refine blk_drew ?_ | refine blk_alloc ?_ _)); exact BK132.out) hb); have n1_ := Aside0.mk (below_step (by repeat (first | (with_reducible first | exact HB.out | apply below_alloc | apply pw_below_drewN | apply below_drew1 | refine below_set ?_ GE132.out) | exact HB.out)) hb); clear BK132; clear HB; have BK132 := n0_; have HB := n1_; clear n0_ n1_; (try clear hb); (try clear hb2); (try clear hk); (try clear hi)))
        go_meet
        case rel => exact ⟨_, (!t134), (by first | rfl | (simp; done) | (simp [*]; done)), H', ⟨by first | omega | exact Nat.le_refl _⟩, ⟨by (with_reducible repeat (first | refine blk_drewN ?_ _ | refine blk_drew ?_ | refine blk_alloc ?_ _)); exact BK132.out⟩, ⟨by repeat (first | (with_reducible first | exact HB.out | apply below_alloc | apply pw_below_drewN | apply below_drew1 | refine below_set ?_ GE132.out) | exact HB.out)⟩⟩
      · rw [if_neg c11] at H
        have c11b0 : (a0_0.toList == ([] : List UInt8)) = false := beq_eq_false_iff_ne.mpr c11
        have c11b1 : (a0_0.toList != ([] : List UInt8)) = true := bne_iff_ne.mpr c11
        (first | rw [c11b0] | (simp only [i64_w, i32_w]; rw [c11b0]) | skip)
        have H' := Aside0.mk H
        clear H
        have hcz15_0 : w10.cell? ⟨gb132, 0, none⟩ = some (.string a0_0) := (blk_cell BK132.out 0).trans rfl
        have hcz15_1 : w10.cell? ⟨gb132, 1, none⟩ = some (.int .i64 a0_1) := (blk_cell BK132.out 1).trans rfl
        have hcz15_2 : w10.cell? ⟨gb132, 2, none⟩ = some (.bool a0_2) := (blk_cell BK132.out 2).trans rfl
        have hcz15_3 : w10.cell? ⟨gb132, 3, none⟩ = some (.string a0_3) := (blk_cell BK132.out 3).trans rfl
        have hcz15_4 : w10.cell? ⟨gb132, 4, none⟩ = some (.slice A0_4 l0_4.length c0_4) := (blk_cell BK132.out 4).trans rfl
        have hfz15_0 := blk_frozen BK132.out 0
        have hfz15_1 := blk_frozen BK132.out 1
        have hfz15_2 := blk_frozen BK132.out 2
        have hfz15_3 := blk_frozen BK132.out 3
        have hfz15_4 := blk_frozen BK132.out 4
        go_wp2
        go_meet
        case rel => exact ⟨_, (true), (by first | rfl | (simp; done) | (simp [*]; done)), H', ⟨by first | omega | exact Nat.le_refl _⟩, ⟨by (with_reducible repeat (first | refine blk_drewN ?_ _ | refine blk_drew ?_ | refine blk_alloc ?_ _)); exact BK132.out⟩, ⟨by repeat (first | (with_reducible first | exact HB.out | apply below_alloc | apply pw_below_drewN | apply below_drew1 | refine below_set ?_ GE132.out) | exact HB.out)⟩⟩
    case rest =>
      clear HC7
      try clear c1
      try clear c2
      try clear p2
      try clear c3
      try clear c9
      try clear c11
      try clear c11b0
      try clear c11b1
      try clear hcz13_0
      try clear hcz13_1
      try clear hcz13_2
      try clear hcz13_3
      try clear hcz13_4
      try clear hcz15_0
      try clear hcz15_1
      try clear hcz15_2
      try clear hcz15_3
      try clear hcz15_4
      try clear hcz5_0
      try clear hcz5_1
      try clear hcz5_2
      try clear hcz5_3
      try clear hcz5_4
      try clear hcz9_0
      try clear hcz9_1
      try clear hcz9_2
      try clear hcz9_3
      try clear hcz9_4
      try clear hfz13_0
      try clear hfz13_1
      try clear hfz13_2
      try clear hfz13_3
      try clear hfz13_4
      try clear hfz15_0
      try clear hfz15_1
      try clear hfz15_2
      try clear hfz15_3
      try clear hfz15_4
      try clear hfz5_0
      try clear hfz5_1
      try clear hfz5_2
      try clear hfz5_3
      try clear hfz5_4
      try clear hfz9_0
      try clear hfz9_1
      try clear hfz9_2
      try clear hfz9_3
      try clear hfz9_4
      obtain ⟨kq, x8_6, rfl, HA, HJ6, BK132, HB⟩ := hcut
      cases kq with
      | zero => exact absurd HA.out (by simp [tree_Check.j0])
      | succ kj6 =>
        have H := HA.out
        clear HA
        simp only [tree_Check.j0] at H
        by_cases c16 : x8_6 = true
        · subst c16
          have H1 : (some 2) = some r := by rw [if_pos rfl] at H; exact H
          clear H
          have H := H1
          clear H1
          obtain rfl := Option.some.inj H
          go_wp2
          go_ret
          exact ⟨by first | rfl | (simp [errW_none, errW_some] <;> rfl) | (simp [*, errW_none, errW_some] <;> rfl), by repeat (first | (with_reducible first | exact HB.out | apply below_alloc | apply pw_below_drewN | apply below_drew1 | refine below_set ?_ GE132.out) | exact HB.out)⟩
        · replace c16 := Bool.eq_false_iff.mpr c16
          subst c16
          have H1 : ((tree_Size.f kj6 a0_0 a0_1 a0_2 a0_3 l0_4).bind fun bt135 => (if bt135.1 > 2000 then (some 3) else (if bt135.2 > 100000 then (some 3) else (some 0)))) = some r := by rw [if_neg (show ¬ (false = true) by decide)] at H; exact H
          clear H
          have H := H1
          clear H1
          replace H := Option.bind_eq_some_iff.mp H
          obtain ⟨⟨t135, t136⟩, A170, H⟩ := H
          replace H : (if t135 > 2000 then (some 3) else (if t136 > 100000 then (some 3) else (some 0))) = some r := H
          have A17 := Aside0.mk A170
          clear A170
          by_cases c18 : t135 > 2000
          · rw [if_pos c18] at H
            have c18b0 : decide (2000 < t135) = true := decide_eq_true c18
            clear c18
            obtain rfl := Option.some.inj H
            have hcz19_0 : wc.cell? ⟨gb132, 0, none⟩ = some (.string a0_0) := (blk_cell BK132.out 0).trans rfl
            have hcz19_1 : wc.cell? ⟨gb132, 1, none⟩ = some (.int .i64 a0_1) := (blk_cell BK132.out 1).trans rfl
            have hcz19_2 : wc.cell? ⟨gb132, 2, none⟩ = some (.bool a0_2) := (blk_cell BK132.out 2).trans rfl
            have hcz19_3 : wc.cell? ⟨gb132, 3, none⟩ = some (.string a0_3) := (blk_cell BK132.out 3).trans rfl
            have hcz19_4 : wc.cell? ⟨gb132, 4, none⟩ = some (.slice A0_4 l0_4.length c0_4) := (blk_cell BK132.out 4).trans rfl
            have hfz19_0 := blk_frozen BK132.out 0
            have hfz19_1 := blk_frozen BK132.out 1
            have hfz19_2 := blk_frozen BK132.out 2
            have hfz19_3 := blk_frozen BK132.out 3
            have hfz19_4 := blk_frozen BK132.out 4
            go_wp2_with (first | ((with_reducible refine gate_callee (f := 11) rfl ?_); refine goesL_ (some 19) rfl rfl Tryd.func11 (by kernel_rfl) rfl #[.agg #[.string a0_0, .int .i64 a0_1, .bool a0_2, .string a0_3, .slice A0_4 l0_4.length c0_4]] rfl (by (try simp only [List.map_toArray, List.map_cons, List.map_nil]); first | done | rfl | (simp only [List.length_drop, List.length_take]; rfl)) ?_; (with_reducible refine (tree_Size.calls kj6 a0_0 a0_1 a0_2 a0_3 _ _ l0_4 t135 t136 _ ?side1 ?side2 A17.out).mono ?_); (case side1 => repeat (first | exact (Kd.C_below HR0_4.out HB.out) | (with_reducible refine Kd.C_alloc ?_ _) | (with_reducible refine Kd.C_drewN ?_ _) | (with_reducible refine Kd.C_drew ?_))); (case side2 => exact HC0_4.out); rintro e w20 ⟨rfl, hb⟩; refine ⟨_, rfl, ?_⟩; have n0_ := Aside0.mk (blk_below (g := gb132) (o := .cells #[.string a0_0, .int .i64 a0_1, .bool a0_2, .string a0_3, .slice A0_4 l0_4.length c0_4] 24 (0, 0)) (by (with_reducible repeat (first | refine blk_drewN ?_ _ | refine blk_drew ?_ | refine blk_alloc ?_ _)); exact BK132.out) hb); have n1_ := Aside0.mk (below_step (by repeat (first | (with_reducible first | exact HB.out | apply below_alloc | apply pw_below_drewN | apply below_drew1 | refine below_set ?_ GE132.out) | exact HB.out)) hb); clear BK132; clear HB; have BK132 := n0_; have HB := n1_; clear n0_ n1_; (try clear hb); (try clear hb2); (try clear hk); (try clear hi)))
            go_ret
            exact ⟨by first | rfl | (simp [errW_none, errW_some] <;> rfl) | (simp [*, errW_none, errW_some] <;> rfl), by repeat (first | (with_reducible first | exact HB.out | apply below_alloc | apply pw_below_drewN | apply below_drew1 | refine below_set ?_ GE132.out) | exact HB.out)⟩
          · rw [if_neg c18] at H
            have c18b0 : decide (2000 < t135) = false := decide_eq_false c18
            clear c18
            by_cases c21 : t136 > 100000
            · rw [if_pos c21] at H
              have c21b0 : decide (100000 < t136) = true := decide_eq_true c21
              clear c21
              obtain rfl := Option.some.inj H
              have hcz22_0 : wc.cell? ⟨gb132, 0, none⟩ = some (.string a0_0) := (blk_cell BK132.out 0).trans rfl
              have hcz22_1 : wc.cell? ⟨gb132, 1, none⟩ = some (.int .i64 a0_1) := (blk_cell BK132.out 1).trans rfl
              have hcz22_2 : wc.cell? ⟨gb132, 2, none⟩ = some (.bool a0_2) := (blk_cell BK132.out 2).trans rfl
              have hcz22_3 : wc.cell? ⟨gb132, 3, none⟩ = some (.string a0_3) := (blk_cell BK132.out 3).trans rfl
              have hcz22_4 : wc.cell? ⟨gb132, 4, none⟩ = some (.slice A0_4 l0_4.length c0_4) := (blk_cell BK132.out 4).trans rfl
              have hfz22_0 := blk_frozen BK132.out 0
              have hfz22_1 := blk_frozen BK132.out 1
              have hfz22_2 := blk_frozen BK132.out 2
              have hfz22_3 := blk_frozen BK132.out 3
              have hfz22_4 := blk_frozen BK132.out 4
              go_wp2_with (first | ((with_reducible refine gate_callee (f := 11) rfl ?_); refine goesL_ (some 19) rfl rfl Tryd.func11 (by kernel_rfl) rfl #[.agg #[.string a0_0, .int .i64 a0_1, .bool a0_2, .string a0_3, .slice A0_4 l0_4.length c0_4]] rfl (by (try simp only [List.map_toArray, List.map_cons, List.map_nil]); first | done | rfl | (simp only [List.length_drop, List.length_take]; rfl)) ?_; (with_reducible refine (tree_Size.calls kj6 a0_0 a0_1 a0_2 a0_3 _ _ l0_4 t135 t136 _ ?side1 ?side2 A17.out).mono ?_); (case side1 => repeat (first | exact (Kd.C_below HR0_4.out HB.out) | (with_reducible refine Kd.C_alloc ?_ _) | (with_reducible refine Kd.C_drewN ?_ _) | (with_reducible refine Kd.C_drew ?_))); (case side2 => exact HC0_4.out); rintro e w23 ⟨rfl, hb⟩; refine ⟨_, rfl, ?_⟩; have n0_ := Aside0.mk (blk_below (g := gb132) (o := .cells #[.string a0_0, .int .i64 a0_1, .bool a0_2, .string a0_3, .slice A0_4 l0_4.length c0_4] 24 (0, 0)) (by (with_reducible repeat (first | refine blk_drewN ?_ _ | refine blk_drew ?_ | refine blk_alloc ?_ _)); exact BK132.out) hb); have n1_ := Aside0.mk (below_step (by repeat (first | (with_reducible first | exact HB.out | apply below_alloc | apply pw_below_drewN | apply below_drew1 | refine below_set ?_ GE132.out) | exact HB.out)) hb); clear BK132; clear HB; have BK132 := n0_; have HB := n1_; clear n0_ n1_; (try clear hb); (try clear hb2); (try clear hk); (try clear hi)))
              go_ret
              exact ⟨by first | rfl | (simp [errW_none, errW_some] <;> rfl) | (simp [*, errW_none, errW_some] <;> rfl), by repeat (first | (with_reducible first | exact HB.out | apply below_alloc | apply pw_below_drewN | apply below_drew1 | refine below_set ?_ GE132.out) | exact HB.out)⟩
            · rw [if_neg c21] at H
              have c21b0 : decide (100000 < t136) = false := decide_eq_false c21
              clear c21
              obtain rfl := Option.some.inj H
              have hcz24_0 : wc.cell? ⟨gb132, 0, none⟩ = some (.string a0_0) := (blk_cell BK132.out 0).trans rfl
              have hcz24_1 : wc.cell? ⟨gb132, 1, none⟩ = some (.int .i64 a0_1) := (blk_cell BK132.out 1).trans rfl
              have hcz24_2 : wc.cell? ⟨gb132, 2, none⟩ = some (.bool a0_2) := (blk_cell BK132.out 2).trans rfl
              have hcz24_3 : wc.cell? ⟨gb132, 3, none⟩ = some (.string a0_3) := (blk_cell BK132.out 3).trans rfl
              have hcz24_4 : wc.cell? ⟨gb132, 4, none⟩ = some (.slice A0_4 l0_4.length c0_4) := (blk_cell BK132.out 4).trans rfl
              have hfz24_0 := blk_frozen BK132.out 0
              have hfz24_1 := blk_frozen BK132.out 1
              have hfz24_2 := blk_frozen BK132.out 2
              have hfz24_3 := blk_frozen BK132.out 3
              have hfz24_4 := blk_frozen BK132.out 4
              go_wp2_with (first | ((with_reducible refine gate_callee (f := 11) rfl ?_); refine goesL_ (some 19) rfl rfl Tryd.func11 (by kernel_rfl) rfl #[.agg #[.string a0_0, .int .i64 a0_1, .bool a0_2, .string a0_3, .slice A0_4 l0_4.length c0_4]] rfl (by (try simp only [List.map_toArray, List.map_cons, List.map_nil]); first | done | rfl | (simp only [List.length_drop, List.length_take]; rfl)) ?_; (with_reducible refine (tree_Size.calls kj6 a0_0 a0_1 a0_2 a0_3 _ _ l0_4 t135 t136 _ ?side1 ?side2 A17.out).mono ?_); (case side1 => repeat (first | exact (Kd.C_below HR0_4.out HB.out) | (with_reducible refine Kd.C_alloc ?_ _) | (with_reducible refine Kd.C_drewN ?_ _) | (with_reducible refine Kd.C_drew ?_))); (case side2 => exact HC0_4.out); rintro e w25 ⟨rfl, hb⟩; refine ⟨_, rfl, ?_⟩; have n0_ := Aside0.mk (blk_below (g := gb132) (o := .cells #[.string a0_0, .int .i64 a0_1, .bool a0_2, .string a0_3, .slice A0_4 l0_4.length c0_4] 24 (0, 0)) (by (with_reducible repeat (first | refine blk_drewN ?_ _ | refine blk_drew ?_ | refine blk_alloc ?_ _)); exact BK132.out) hb); have n1_ := Aside0.mk (below_step (by repeat (first | (with_reducible first | exact HB.out | apply below_alloc | apply pw_below_drewN | apply below_drew1 | refine below_set ?_ GE132.out) | exact HB.out)) hb); clear BK132; clear HB; have BK132 := n0_; have HB := n1_; clear n0_ n1_; (try clear hb); (try clear hb2); (try clear hk); (try clear hi)))
              go_ret
              exact ⟨by first | rfl | (simp [errW_none, errW_some] <;> rfl) | (simp [*, errW_none, errW_some] <;> rfl), by repeat (first | (with_reducible first | exact HB.out | apply below_alloc | apply pw_below_drewN | apply below_drew1 | refine below_set ?_ GE132.out) | exact HB.out)⟩
end Go.Proofs.YtalljcjignaafaaDoor.PB
namespace Go.Proofs.YtalljcjignaafaaDoor
open Go.RowKit Go.Proofs.YtalljcjignaafaaDoor.PB Go.Proofs.YtalljcjignaafaaDoorW.PrintWords Go.Proofs.YtalljcjignaafaaDoorW.PrintLast Go.Proofs.YtalljcjignaafaaDoorW.PrintMore
set_option linter.unusedVariables false
set_option linter.unusedSimpArgs false
def Ev {α : Type} (f : Nat → Option α) (v : α) : Prop := ∃ k0, ∀ k, k0 ≤ k → f k = some v
theorem Ev.const {α : Type} (v : α) : Ev (fun _ => some v) v := ⟨0, fun _ _ => rfl⟩
theorem Ev.succ {α : Type} {f : Nat → Option α} {v : α} (h : Ev (fun k => f (k + 1)) v) : Ev f v := by
  obtain ⟨k0, h⟩ := h
  refine ⟨k0 + 1, fun k hk => ?_⟩
  obtain ⟨j, rfl⟩ : ∃ j, k = j + 1 := ⟨k - 1, by omega⟩
  exact h j (by omega)
theorem Ev.bind {α β : Type} {f : Nat → Option α} {v : α} {g : Nat → α → Option β} {u : β} (h : Ev f v) (h2 : Ev (fun k => g k v) u) : Ev (fun k => (f k).bind (g k)) u := by
  obtain ⟨k0, h⟩ := h
  obtain ⟨k1, h2⟩ := h2
  refine ⟨max k0 k1, fun k hk => ?_⟩
  show (f k).bind (g k) = _
  rw [h k (by omega)]
  exact h2 k (by omega)
theorem Ev.congr {α : Type} {f g : Nat → Option α} {v u : α} (h : Ev f v) (hf : ∀ k, g k = f k) (e : v = u) : Ev g u := by
  obtain ⟨k0, h⟩ := h
  exact ⟨k0, fun k hk => by rw [hf, h k hk, e]⟩
theorem wrap64_id (x : Int) (h0 : -9223372036854775808 ≤ x) (h1 : x ≤ 9223372036854775807) : wrap64 x = x := by
  unfold wrap64; omega
theorem rd_at (ks : List Tree) (j : Nat) (h : j < ks.length) : rd_T24 ks (j : Int) = ks[j] := by
  simp [rd_T24, List.getD_eq_getElem?_getD, List.getElem?_eq_getElem h]
/-- The fold of the depths. -/
def deepK (m : Nat) (d : Nat) (ks : List Tree) : Nat := ks.foldl (fun d x => max d (1 + deepP m x)) d
theorem deepK_le (m : Nat) (hm : ∀ x : Tree, deepP m x ≤ m) : ∀ (ks : List Tree) (d : Nat), d ≤ m + 1 → deepK m d ks ≤ m + 1
  | [], d, h => h
  | x :: r, d, h => deepK_le m hm r _ (by have := hm x; show max d (1 + deepP m x) ≤ m + 1; omega)
theorem deepP_le : ∀ (m : Nat) (t : Tree), 1 ≤ m → deepP m t ≤ m
  | 0, t, h => by omega
  | 1, t, _ => by simp [deepP]
  | m + 2, t, _ => by
    simp only [deepP]
    split
    · exact deepK_le (m + 1) (fun x => deepP_le (m + 1) x (by omega)) _ _ (by omega)
    · omega
theorem mx_nat (a b : Nat) : mx (a : Int) (b : Int) = ((max a b : Nat) : Int) := by
  unfold mx
  split <;> omega
theorem deep_loop (m : Nat) (hm : m ≤ 14) (hm1 : 2 ≤ m) (ks : List Tree) (hl : ks.length ≤ 1954687338212) (ih : ∀ x ∈ ks, Ev (fun k => tree_deep.f k x.f0 x.f1 x.f2 x.f3 x.f4 ((m - 1 : Nat) : Int)) ((deepP (m - 1) x : Nat) : Int)) :
    ∀ (n j d : Nat), ks.length - j = n → j ≤ ks.length → Ev (fun k => tree_deep.l0 k m d ks ks.length j) ((deepK (m - 1) d (ks.drop j) : Nat) : Int)
  | 0, j, d, hn, hj => by
    refine Ev.succ ((Ev.const _).congr (fun k => ?_) rfl)
    simp only [tree_deep.l0]
    rw [if_neg (by omega), List.drop_of_length_le (by omega)]
    rfl
  | n + 1, j, d, hn, hj => by
    have hlt : j < ks.length := by omega
    refine Ev.succ (Ev.congr ((ih ks[j] (List.getElem_mem hlt)).bind (g := fun k t => tree_deep.l0 k m (mx d (wrap64 (1 + t))) ks ks.length ((j + 1 : Nat) : Int)) ?_) (fun k => ?_) rfl)
    · have hd := deepP_le (m - 1) ks[j] (by omega)
      rw [List.drop_eq_getElem_cons hlt]
      rw [wrap64_id _ (by omega) (by omega), show (1 + ((deepP (m - 1) ks[j] : Nat) : Int)) = ((1 + deepP (m - 1) ks[j] : Nat) : Int) by omega, mx_nat]
      exact deep_loop m hm hm1 ks hl ih n (j + 1) _ (by omega) (by omega)
    · simp only [tree_deep.l0]
      rw [if_pos (by omega), if_pos (by omega), if_pos (by omega), rd_at ks j hlt, wrap64_id ((m : Int) - 1) (by omega) (by omega), wrap64_id ((j : Int) + 1) (by omega) (by omega), show ((m : Int) - 1) = ((m - 1 : Nat) : Int) by omega]
      rfl
theorem deep_ev : ∀ (m : Nat) (t : Tree), Fit t → 1 ≤ m → m ≤ 14 → Ev (fun k => tree_deep.f k t.f0 t.f1 t.f2 t.f3 t.f4 m) ((deepP m t : Nat) : Int)
  | 0, t, _, h, _ => by omega
  | 1, t, _, _, _ => by
    refine Ev.succ (Ev.congr (f := fun k => tree_deep.j0 k 1 1 true t.f0 t.f1 t.f2 t.f3 t.f4) (v := 1) (Ev.succ ((Ev.const 1).congr (fun k => by simp [tree_deep.j0]) rfl)) (fun k => ?_) (by simp [deepP]))
    simp [tree_deep.f]
  | m + 2, t, hf, _, hm => by
    by_cases hk : t.f1 = 2
    · have e : deepP (m + 2) t = deepK (m + 1) 1 t.f4 := by simp only [deepP]; rw [if_pos ⟨hk, by omega⟩]; rfl
      rw [e]
      have h0 := deep_loop (m + 2) hm (by omega) t.f4 hf.kids (fun x hx => deep_ev (m + 1) x (hf.kid x hx) (by omega) (by omega)) t.f4.length 0 1 (by omega) (by omega)
      refine Ev.succ (Ev.congr (f := fun k => tree_deep.j0 k ((m + 2 : Nat) : Int) 1 false t.f0 t.f1 t.f2 t.f3 t.f4) (Ev.succ (h0.congr (fun k => ?_) rfl)) (fun k => ?_) rfl)
      · simp [tree_deep.j0]
      · simp only [tree_deep.f]
        rw [if_pos hk, show (((m + 2 : Nat) : Int) == 1) = false from beq_eq_false_iff_ne.mpr (by omega)]
    · have e : deepP (m + 2) t = 1 := by simp only [deepP]; rw [if_neg (by simp [hk])]
      rw [e]
      refine Ev.succ (Ev.congr (f := fun k => tree_deep.j0 k ((m + 2 : Nat) : Int) 1 true t.f0 t.f1 t.f2 t.f3 t.f4) (v := 1) (Ev.succ ((Ev.const 1).congr (fun k => by simp [tree_deep.j0]) rfl)) (fun k => ?_) rfl)
      simp only [tree_deep.f]
      rw [if_neg hk]
mutual
def depthP : Tree → Nat
  | ⟨_, kd, _, _, ks⟩ => if kd = 2 then max 1 (depthK ks) else 1
def depthK : List Tree → Nat
  | [] => 0
  | k :: r => max (1 + depthP k) (depthK r)
end
mutual
def sizeN : Tree → Nat
  | ⟨_, _, _, _, ks⟩ => 1 + sizeNs ks
def sizeNs : List Tree → Nat
  | [] => 0
  | k :: r => sizeN k + sizeNs r
end
mutual
def sizeB : Tree → Nat
  | ⟨_, _, _, dt, ks⟩ => dt.size + sizeBs ks
def sizeBs : List Tree → Nat
  | [] => 0
  | k :: r => sizeB k + sizeBs r
end
theorem depthP_eq (t : Tree) : depthP t = if t.f1 = 2 then max 1 (depthK t.f4) else 1 := by cases t; rfl
theorem sizeN_eq (t : Tree) : sizeN t = 1 + sizeNs t.f4 := by cases t; rfl
theorem sizeB_eq (t : Tree) : sizeB t = t.f3.size + sizeBs t.f4 := by cases t; rfl
theorem deepK_depth (m : Nat) (h : ∀ x : Tree, deepP m x = min m (depthP x)) : ∀ (ks : List Tree) (d : Nat), deepK m d ks = max d (min (m + 1) (depthK ks))
  | [], d => by simp [deepK, depthK]
  | x :: r, d => by
    have e : deepK m d (x :: r) = deepK m (max d (1 + deepP m x)) r := rfl
    rw [e, deepK_depth m h r, h x]
    simp only [depthK]
    omega
theorem deepP_depth : ∀ (m : Nat) (t : Tree), 1 ≤ m → deepP m t = min m (depthP t)
  | 0, t, h => by omega
  | 1, t, _ => by
    rw [depthP_eq]; simp only [deepP]
    rw [if_neg (by simp)]
    split <;> omega
  | m + 2, t, _ => by
    rw [depthP_eq]
    by_cases hk : t.f1 = 2
    · have e : deepP (m + 2) t = deepK (m + 1) 1 t.f4 := by simp only [deepP]; rw [if_pos ⟨hk, by omega⟩]; rfl
      rw [e, deepK_depth (m + 1) (fun x => deepP_depth (m + 1) x (by omega)), if_pos hk]
      omega
    · have e : deepP (m + 2) t = 1 := by simp only [deepP]; rw [if_neg (by simp [hk])]
      rw [e, if_neg hk]; omega
theorem depthK_mem : ∀ (ks : List Tree) (x : Tree), x ∈ ks → 1 + depthP x ≤ depthK ks
  | k :: r, x, h => by
    simp only [depthK]
    rcases List.mem_cons.1 h with rfl | h
    · omega
    · have := depthK_mem r x h; omega
theorem sizeNs_mem : ∀ (ks : List Tree) (x : Tree), x ∈ ks → sizeN x + sizeB x ≤ sizeNs ks + sizeBs ks
  | k :: r, x, h => by
    simp only [sizeNs, sizeBs]
    rcases List.mem_cons.1 h with rfl | h
    · omega
    · have := sizeNs_mem r x h; omega
theorem sizeNs_drop (ks : List Tree) (j : Nat) (h : j < ks.length) : sizeNs (ks.drop j) = sizeN ks[j] + sizeNs (ks.drop (j + 1)) ∧ sizeBs (ks.drop j) = sizeB ks[j] + sizeBs (ks.drop (j + 1)) := by
  rw [List.drop_eq_getElem_cons h]; exact ⟨rfl, rfl⟩
theorem tooDeep_ev (t : Tree) (hf : Fit t) : Ev (fun k => tree_tooDeep.f k t.f0 t.f1 t.f2 t.f3 t.f4) (decide (12 < depthP t)) := by
  refine Ev.congr ((deep_ev 14 t hf (by omega) (by omega)).bind (g := fun k t106 => some (decide (t106 > 12))) ((Ev.const _))) (fun k => ?_) ?_
  · simp only [tree_tooDeep.f, tree_Deep.f]
    show ((tree_deep.f k t.f0 t.f1 t.f2 t.f3 t.f4 14).bind fun t106 => some t106).bind _ = _
    cases tree_deep.f k t.f0 t.f1 t.f2 t.f3 t.f4 14 <;> rfl
  · rw [deepP_depth 14 t (by omega)]
    by_cases h : 12 < depthP t
    · simp [h]; omega
    · simp [h]; omega
theorem size_loop (ks : List Tree) (hl : ks.length ≤ 1954687338212) (hf : ∀ x ∈ ks, Fit x) (hd : ∀ x ∈ ks, depthP x ≤ 12)
    (ih : ∀ x ∈ ks, Ev (fun k => tree_size.f k x.f0 x.f1 x.f2 x.f3 x.f4) (((sizeN x : Nat) : Int), ((sizeB x : Nat) : Int))) :
    ∀ (n j a b : Nat), ks.length - j = n → j ≤ ks.length → a + b + (sizeNs (ks.drop j) + sizeBs (ks.drop j)) < 4611686018427387904 → Ev (fun k => tree_size.l0 k a b ks ks.length j) (((a + sizeNs (ks.drop j) : Nat) : Int), ((b + sizeBs (ks.drop j) : Nat) : Int))
  | 0, j, a, b, hn, hj, hz => by
    refine Ev.succ ((Ev.const _).congr (fun k => ?_) rfl)
    simp only [tree_size.l0]
    rw [if_neg (by omega), List.drop_of_length_le (by omega)]
    rfl
  | n + 1, j, a, b, hn, hj, hz => by
    have hlt : j < ks.length := by omega
    have hmem := List.getElem_mem hlt
    obtain ⟨e1, e2⟩ := sizeNs_drop ks j hlt
    rw [e1, e2] at hz
    have hz' : (a + sizeN ks[j]) + (b + sizeB ks[j]) + (sizeNs (ks.drop (j + 1)) + sizeBs (ks.drop (j + 1))) < 4611686018427387904 := by omega
    have h0 := size_loop ks hl hf hd ih n (j + 1) (a + sizeN ks[j]) (b + sizeB ks[j]) (by omega) (by omega) hz'
    have h1 := (ih ks[j] hmem).bind (g := fun k (bt : Int × Int) => tree_size.l0 k (wrap64 (a + bt.1)) (wrap64 (b + bt.2)) ks ks.length ((j + 1 : Nat) : Int)) (h0.congr (fun k => by
      show tree_size.l0 k (wrap64 ((a : Int) + ((sizeN ks[j] : Nat) : Int))) (wrap64 ((b : Int) + ((sizeB ks[j] : Nat) : Int))) ks ks.length ((j + 1 : Nat) : Int) = _
      rw [wrap64_id _ (by omega) (by omega), wrap64_id _ (by omega) (by omega), ← Int.natCast_add, ← Int.natCast_add]) rfl)
    refine Ev.succ (Ev.congr ((tooDeep_ev ks[j] (hf _ hmem)).bind (g := fun k t112 => if t112 = true then (tree_size.l0 k a b ks ks.length ((j + 1 : Nat) : Int)) else ((tree_size.f k ks[j].f0 ks[j].f1 ks[j].f2 ks[j].f3 ks[j].f4).bind fun bt => tree_size.l0 k (wrap64 (a + bt.1)) (wrap64 (b + bt.2)) ks ks.length ((j + 1 : Nat) : Int))) (h1.congr (fun k => ?_) rfl)) (fun k => ?_) ?_)
    · rw [if_neg (by have := hd _ hmem; simp; omega)]
    · simp only [tree_size.l0]
      rw [if_pos (by omega), if_pos (by omega), if_pos (by omega), rd_at ks j hlt, wrap64_id ((j : Int) + 1) (by omega) (by omega)]
      rfl
    · rw [e1, e2]
      simp only [Prod.mk.injEq]
      exact ⟨by omega, by omega⟩
theorem mayP_kids (t : Tree) (hm : mayP t = true) : (t.f4 = [] ∨ t.f1 = 2) ∧ ∀ x ∈ t.f4, mayP x = true := by
  obtain ⟨nm, kd, ex, dt, ks⟩ := t
  have hmk : ∀ (p : Option ByteArray) (ks : List Tree), mayKids p ks = true → ∀ k ∈ ks, mayP k = true := by
    intro p ks
    induction ks generalizing p with
    | nil => intro _ k hk; cases hk
    | cons x r ih =>
      intro h k hk
      simp only [mayKids, Bool.and_eq_true] at h
      rcases List.mem_cons.1 hk with rfl | hk
      · exact h.1.1.2
      · exact ih _ h.2 k hk
  by_cases k1 : kd = 1
  · subst k1
    have hn : ks = [] := by simpa [mayP] using hm
    subst hn
    exact ⟨.inl rfl, fun x hx => by cases hx⟩
  by_cases k2 : kd = 2
  · subst k2
    have hn : mayKids none ks = true := by simp [mayP] at hm; exact hm.2
    exact ⟨.inr rfl, hmk none ks hn⟩
  by_cases k3 : kd = 3
  · subst k3
    have hn : ks = [] := by simp [mayP] at hm; exact hm.1.1.1.1
    subst hn
    exact ⟨.inl rfl, fun x hx => by cases hx⟩
  simp [mayP, k1, k2, k3] at hm
theorem depth_kid (t : Tree) (hm : mayP t = true) (x : Tree) (hx : x ∈ t.f4) : 1 + depthP x ≤ depthP t := by
  rcases (mayP_kids t hm).1 with h | h
  · rw [h] at hx; cases hx
  · rw [depthP_eq t, if_pos h]; have := depthK_mem t.f4 x hx; omega
theorem size_ev (t : Tree) (hf : Fit t) : mayP t = true → depthP t ≤ 12 → sizeN t + sizeB t < 4611686018427387904 → Ev (fun k => tree_size.f k t.f0 t.f1 t.f2 t.f3 t.f4) (((sizeN t : Nat) : Int), ((sizeB t : Nat) : Int)) := by
  induction hf with
  | mk t h0 h1 h3 h4 hk ih =>
    intro hm hd hz
    have hz2 : sizeNs t.f4 + sizeBs t.f4 < 4611686018427387904 := by rw [sizeN_eq, sizeB_eq] at hz; omega
    have h := size_loop t.f4 h4 hk (fun x hx => by have := depth_kid t hm x hx; omega) (fun x hx => ih x hx ((mayP_kids t hm).2 x hx) (by have := depth_kid t hm x hx; omega) (by have := sizeNs_mem t.f4 x hx; omega)) t.f4.length 0 1 t.f3.size (by omega) (by omega) (by rw [List.drop_zero]; rw [sizeN_eq, sizeB_eq] at hz; omega)
    refine Ev.succ (h.congr (fun k => ?_) ?_)
    · simp only [tree_size.f]; rfl
    · rw [List.drop_zero, sizeN_eq, sizeB_eq]
/-- What Check tells. -/
def checkP (t : Tree) : Int := if 12 < depthP t then 3 else if t.f0.data.toList = [] ∧ mayP t = true then (if 2000 < sizeN t ∨ 100000 < sizeB t then 3 else 0) else 2
/-- A tree whose size is a number. -/
def Sized (t : Tree) : Prop := depthP t ≤ 12 → mayP t = true → sizeN t + sizeB t < 4611686018427387904
theorem Size_ev (t : Tree) (hf : Fit t) (hm : mayP t = true) (hd : depthP t ≤ 12) (hz : sizeN t + sizeB t < 4611686018427387904) : Ev (fun k => tree_Size.f k t.f0 t.f1 t.f2 t.f3 t.f4) (((sizeN t : Nat) : Int), ((sizeB t : Nat) : Int)) := by
  refine Ev.congr ((tooDeep_ev t hf).bind (g := fun k t116 => if t116 = true then some (0, 0) else ((tree_size.f k t.f0 t.f1 t.f2 t.f3 t.f4).bind fun bt117 => some (bt117.1, bt117.2))) (((size_ev t hf hm hd hz).bind (g := fun k (bt : Int × Int) => some (bt.1, bt.2)) (Ev.const _)).congr (fun k => ?_) rfl)) (fun k => rfl) rfl
  rw [if_neg (by simp; omega)]
theorem may_f (t : Tree) (hf : Fit t) : tree_may.f t.f0 t.f1 t.f2 t.f3 t.f4 = some (mayP t) := by
  cases t; exact if_pos hf
theorem check_ev (t : Tree) (hf : Fit t) (hz : Sized t) : Ev (fun k => tree_Check.f k t.f0 t.f1 t.f2 t.f3 t.f4) (checkP t) := by
  refine Ev.congr ((tooDeep_ev t hf).bind (g := fun k t277 => (if t277 = true then (some 3) else (if t.f0.toList = ([] : List UInt8) then ((tree_may.f t.f0 t.f1 t.f2 t.f3 t.f4).bind fun t278 => (tree_Check.j0 k (!t278) t.f0 t.f1 t.f2 t.f3 t.f4)) else (tree_Check.j0 k true t.f0 t.f1 t.f2 t.f3 t.f4)))) ?_) (fun k => rfl) rfl
  by_cases hd : 12 < depthP t
  · refine (Ev.const 3).congr (fun k => ?_) ?_
    · rw [if_pos (by simpa using hd)]
    · rw [checkP, if_pos hd]
  by_cases hn : t.f0.data.toList = []
  · cases hm : mayP t with
    | false =>
      refine Ev.congr (f := fun k => tree_Check.j0 k true t.f0 t.f1 t.f2 t.f3 t.f4) (v := 2) (Ev.succ ((Ev.const 2).congr (fun k => by simp [tree_Check.j0]) rfl)) (fun k => ?_) ?_
      · rw [if_neg (by simpa using hd), if_pos (by rw [tl_eq]; exact hn), may_f t hf, hm]; rfl
      · rw [checkP, if_neg hd, if_neg (by simp [hm])]
    | true =>
      refine Ev.congr (f := fun k => tree_Check.j0 k false t.f0 t.f1 t.f2 t.f3 t.f4) (Ev.succ (((Size_ev t hf hm (by omega) (hz (by omega) hm)).bind (g := fun k (bt279 : Int × Int) => (if bt279.1 > 2000 then (some 3) else (if bt279.2 > 100000 then (some 3) else (some 0)))) (v := ((sizeN t : Int), (sizeB t : Int))) (u := if 2000 < sizeN t ∨ 100000 < sizeB t then 3 else 0) ?_).congr (fun k => ?_) rfl)) (fun k => ?_) ?_
      · refine (Ev.const _).congr (fun k => ?_) rfl
        by_cases h1 : 2000 < sizeN t
        · rw [if_pos (by show ((sizeN t : Nat) : Int) > 2000; omega), if_pos (Or.inl h1)]
        · rw [if_neg (by show ¬ ((sizeN t : Nat) : Int) > 2000; omega)]
          by_cases h2 : 100000 < sizeB t
          · rw [if_pos (by show ((sizeB t : Nat) : Int) > 100000; omega), if_pos (Or.inr h2)]
          · rw [if_neg (by show ¬ ((sizeB t : Nat) : Int) > 100000; omega), if_neg (by omega)]
      · simp only [tree_Check.j0]; rfl
      · rw [if_neg (by simpa using hd), if_pos (by rw [tl_eq]; exact hn), may_f t hf, hm]; rfl
      · unfold checkP; rw [if_neg hd, if_pos (show t.f0.data.toList = [] ∧ mayP t = true from ⟨hn, hm⟩)]
  · refine Ev.congr (f := fun k => tree_Check.j0 k true t.f0 t.f1 t.f2 t.f3 t.f4) (v := 2) (Ev.succ ((Ev.const 2).congr (fun k => by simp [tree_Check.j0]) rfl)) (fun k => ?_) ?_
    · rw [if_neg (by simpa using hd), if_neg (by rw [tl_eq]; exact hn)]
    · rw [checkP, if_neg hd, if_neg (by simp [hn])]
end Go.Proofs.YtalljcjignaafaaDoor

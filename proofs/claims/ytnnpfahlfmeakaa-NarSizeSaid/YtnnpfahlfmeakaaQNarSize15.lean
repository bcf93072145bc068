import Derived.Test.YtnnpfahlfmeakaaQNarSize7
import Derived.Test.YtnnpfahlfmeakaaQNarSize11
import Derived.Test.YtnnpfahlfmeakaaQNarSize12
import Derived.Test.YtnnpfahlfmeakaaQNarSize14
namespace Go.Proofs.Ytnnpfahlfmeakaa.PB
open Go.RowKit Go.Proofs.Ytnnpfahlfmeakaa Go.Proofs.YtnnpfahlfmeakaaW.PrintWords Go.Proofs.YtnnpfahlfmeakaaW.PrintLast
set_option linter.unusedVariables false
set_option linter.unusedSimpArgs false
theorem setCell_other {w : World} {b c j : Nat} (h : c ≠ b) (v : Value) : (w.setCell ⟨b, j, none⟩ v).heap[c]? = w.heap[c]? := by
  simp only [World.setCell, Array.getElem?_modify]
  rw [if_neg (fun e => h e.symm)]
/-- A clerk: what it has. -/
def ClerkAt (w : World) (g : Nat) (s : ByteArray) : Prop := w.heap[g]? = some (.cells #[.string s] 47 (0, 0))
theorem ClerkAt.below {w w' : World} {g : Nat} {s : ByteArray} (h : ClerkAt w g s) (hb : Below w.heap.size w w') : ClerkAt w' g s := blk_below h hb
set_option maxRecDepth 100000 in
theorem clerkLink_calls (g : Nat) (s nm dt : ByteArray) (kd : Int) (ex : Bool) (A : Option Addr) (l c : Nat) (w0 w : World) (hg : w0.heap.size ≤ g) (hc : ClerkAt w g s) (hb : Below w0.heap.size w0 w) (hs : s.size + dt.size ≤ 281474976710000) :
    Calls Try.prog 43 #[.pointer (some ⟨g, 0, none⟩), .agg #[.string nm, .int .i64 kd, .bool ex, .string dt, .slice A l c]] w fun e w' => e = .returned (.tuple #[]) ∧ ClerkAt w' g (s ++ textB dt) ∧ Below w0.heap.size w0 w' := by
  have hu := Try.underlying24
  have hu2 := Try.underlying47
  have HC := Aside0.mk hc
  have HB := Aside0.mk hb
  have HG := Aside0.mk hg
  clear hc hb hg
  go_enter Try.func43, Try.ntmps43
  go_wp2_with fail
  have HC1 := Aside0.mk (HC.out.below (below_alloc (Below.refl _ w) (.cells #[.string nm, .int .i64 kd, .bool ex, .string dt, .slice A l c] 24)))
  have HX1 := Aside0.mk (heap_alloc_new w (.cells #[.string nm, .int .i64 kd, .bool ex, .string dt, .slice A l c] 24))
  have HB1 := Aside0.mk (below_then HB.out HB.out.size (below_alloc (Below.refl _ w) (.cells #[.string nm, .int .i64 kd, .bool ex, .string dt, .slice A l c] 24)))
  generalize w.alloc (.cells #[.string nm, .int .i64 kd, .bool ex, .string dt, .slice A l c] 24) = W1 at HC1 HX1 HB1 ⊢
  have q0 := EW.cell ((blk_cell HC1.out 0).trans rfl : W1.cell? ⟨g, 0, none⟩ = some (.string s))
  have q3 := EW.cell ((blk_cell HX1.out 3).trans rfl : W1.cell? ⟨w.heap.size, 3, none⟩ = some (.string dt))
  have HPC := fun y : EW W1 => Calls.ext_of (wirePutText_calls s dt hs y.v)
  refine wp_region_ext_tail 10 (by kernel_rfl) (by kernel_rfl) ?_
  simp only [List.take_succ_cons, List.take_zero, List.drop_succ_cons, List.drop_zero]
  repeat (go_big_quiet_step ((go_at_call 21; exact HPC _)))
  refine wpQuiet_nil ?_
  rintro _ ⟨y, rfl⟩
  have HC2 := Aside0.mk (HC1.out.below y.h)
  have HB2 := Aside0.mk (below_then HB1.out HB1.out.size y.h)
  generalize y.v = W2 at HC2 HB2 ⊢
  have c2 : W2.cell? ⟨g, 0, none⟩ = some (.string s) := (blk_cell HC2.out 0).trans rfl
  have hfz : W2.frozen? ⟨g, 0, none⟩ = false := blk_nofreeze HC2.out 0
  go_wp2
  go_end0
  exact ⟨rfl, (blk_store HC2.out 0 _).trans rfl, HB2.out.setCell HG.out _⟩
set_option maxRecDepth 100000 in
theorem clerkFile_calls (g : Nat) (s nm dt : ByteArray) (kd : Int) (ex : Bool) (A : Option Addr) (l c : Nat) (w0 w : World) (hg : w0.heap.size ≤ g) (hc : ClerkAt w g s) (hb : Below w0.heap.size w0 w) (hs : s.size + dt.size ≤ 281474976709900) :
    Calls Try.prog 42 #[.pointer (some ⟨g, 0, none⟩), .agg #[.string nm, .int .i64 kd, .bool ex, .string dt, .slice A l c]] w fun e w' => e = .returned (.tuple #[]) ∧ ClerkAt w' g (s ++ (encNum (if ex then 1 else 0) ++ textB dt)) ∧ Below w0.heap.size w0 w' := by
  have hu := Try.underlying24
  have hu2 := Try.underlying47
  have HC := Aside0.mk hc
  have HB := Aside0.mk hb
  have HG := Aside0.mk hg
  clear hc hb hg
  have hsz : (s ++ encNum (if ex then 1 else 0)).size + dt.size ≤ 281474976710000 := by
    have := nd_le (if ex then 1 else 0) (by cases ex <;> decide)
    rw [ByteArray.size_append, encNum_size]; omega
  rw [← ByteArray.append_assoc]
  cases ex
  · go_enter Try.func42, Try.ntmps42
    go_wp2_with fail
    have HC1 := Aside0.mk (HC.out.below (below_alloc (Below.refl _ w) (.cells #[.string nm, .int .i64 kd, .bool false, .string dt, .slice A l c] 24)))
    have HX1 := Aside0.mk (heap_alloc_new w (.cells #[.string nm, .int .i64 kd, .bool false, .string dt, .slice A l c] 24))
    have HB1 := Aside0.mk (below_then HB.out HB.out.size (below_alloc (Below.refl _ w) (.cells #[.string nm, .int .i64 kd, .bool false, .string dt, .slice A l c] 24)))
    generalize w.alloc (.cells #[.string nm, .int .i64 kd, .bool false, .string dt, .slice A l c] 24) = W1 at HC1 HX1 HB1 ⊢
    have q0 := EW.cell ((blk_cell HC1.out 0).trans rfl : W1.cell? ⟨g, 0, none⟩ = some (.string s))
    have q2 : W1.cell? ⟨w.heap.size, 2, none⟩ = some (.bool false) := (blk_cell HX1.out 2).trans rfl
    have q3 := EW.cell ((blk_cell HX1.out 3).trans rfl : W1.cell? ⟨w.heap.size, 3, none⟩ = some (.string dt))
    have HNC := fun y : EW W1 => Calls.ext_of (putNum_any s 0 (by decide) (by omega) y.v)
    have HPC := fun y : EW W1 => Calls.ext_of (wirePutText_calls (s ++ encNum 0) dt hsz y.v)
    go_wp2_with fail
    refine wp_region_ext_tail 12 (by kernel_rfl) (by kernel_rfl) ?_
    simp only [List.take_succ_cons, List.take_zero, List.drop_succ_cons, List.drop_zero]
    repeat (go_big_quiet_step ((first | (go_at_call 41; exact HNC _) | (go_at_call 21; exact HPC _))))
    refine wpQuiet_nil ?_
    rintro _ ⟨y, rfl⟩
    have HC2 := Aside0.mk (HC1.out.below y.h)
    have HB2 := Aside0.mk (below_then HB1.out HB1.out.size y.h)
    generalize y.v = W2 at HC2 HB2 ⊢
    have c2 : W2.cell? ⟨g, 0, none⟩ = some (.string s) := (blk_cell HC2.out 0).trans rfl
    have hfz : W2.frozen? ⟨g, 0, none⟩ = false := blk_nofreeze HC2.out 0
    go_wp2
    go_end0
    exact ⟨rfl, (blk_store HC2.out 0 _).trans rfl, HB2.out.setCell HG.out _⟩
  · go_enter Try.func42, Try.ntmps42
    go_wp2_with fail
    have HC1 := Aside0.mk (HC.out.below (below_alloc (Below.refl _ w) (.cells #[.string nm, .int .i64 kd, .bool true, .string dt, .slice A l c] 24)))
    have HX1 := Aside0.mk (heap_alloc_new w (.cells #[.string nm, .int .i64 kd, .bool true, .string dt, .slice A l c] 24))
    have HB1 := Aside0.mk (below_then HB.out HB.out.size (below_alloc (Below.refl _ w) (.cells #[.string nm, .int .i64 kd, .bool true, .string dt, .slice A l c] 24)))
    generalize w.alloc (.cells #[.string nm, .int .i64 kd, .bool true, .string dt, .slice A l c] 24) = W1 at HC1 HX1 HB1 ⊢
    have q0 := EW.cell ((blk_cell HC1.out 0).trans rfl : W1.cell? ⟨g, 0, none⟩ = some (.string s))
    have q2 : W1.cell? ⟨w.heap.size, 2, none⟩ = some (.bool true) := (blk_cell HX1.out 2).trans rfl
    have q3 := EW.cell ((blk_cell HX1.out 3).trans rfl : W1.cell? ⟨w.heap.size, 3, none⟩ = some (.string dt))
    have HNC := fun y : EW W1 => Calls.ext_of (putNum_any s 1 (by decide) (by omega) y.v)
    have HPC := fun y : EW W1 => Calls.ext_of (wirePutText_calls (s ++ encNum 1) dt hsz y.v)
    go_wp2_with fail
    refine wp_region_ext_tail 12 (by kernel_rfl) (by kernel_rfl) ?_
    simp only [List.take_succ_cons, List.take_zero, List.drop_succ_cons, List.drop_zero]
    repeat (go_big_quiet_step ((first | (go_at_call 41; exact HNC _) | (go_at_call 21; exact HPC _))))
    refine wpQuiet_nil ?_
    rintro _ ⟨y, rfl⟩
    have HC2 := Aside0.mk (HC1.out.below y.h)
    have HB2 := Aside0.mk (below_then HB1.out HB1.out.size y.h)
    generalize y.v = W2 at HC2 HB2 ⊢
    have c2 : W2.cell? ⟨g, 0, none⟩ = some (.string s) := (blk_cell HC2.out 0).trans rfl
    have hfz : W2.frozen? ⟨g, 0, none⟩ = false := blk_nofreeze HC2.out 0
    go_wp2
    go_end0
    exact ⟨rfl, (blk_store HC2.out 0 _).trans rfl, HB2.out.setCell HG.out _⟩
/-- What a node's walk does. -/
def NodeT (t : Tree) : Prop := ∀ (A : Option Addr) (c g : Nat) (s : ByteArray) (w0 w : World), Kd.C k24 w0 A t.f4.length t.f4 → t.f4.length ≤ c → w0.heap.size ≤ g → ClerkAt w g s → Below w0.heap.size w0 w → s.size + (nodeB t).size ≤ 281474976700000 →
    Calls Try.prog 22 #[.pointer (some ⟨g, 0, none⟩), .agg #[.string t.f0, .int .i64 t.f1, .bool t.f2, .string t.f3, .slice A t.f4.length c]] w fun e w' => e = .returned (.tuple #[]) ∧ ClerkAt w' g (s ++ nodeB t) ∧ Below w0.heap.size w0 w'
set_option maxRecDepth 100000 in
set_option maxHeartbeats 1000000 in
theorem clerkDir_calls (g : Nat) (s nm dt : ByteArray) (kd : Int) (ex : Bool) (A : Option Addr) (ks : List Tree) (c : Nat) (w0 w : World) (hr : Kd.C k24 w0 A ks.length ks) (hl : ks.length ≤ c) (hln : ks.length ≤ 9223372036854775807) (hg : w0.heap.size ≤ g) (hc : ClerkAt w g s) (hb : Below w0.heap.size w0 w) (ih : ∀ k ∈ ks, NodeT k) (hs : s.size + (encNum ks.length ++ kidsB ks).size ≤ 281474976700000) :
    Calls Try.prog 44 #[.pointer (some ⟨g, 0, none⟩), .agg #[.string nm, .int .i64 kd, .bool ex, .string dt, .slice A ks.length c]] w fun e w' => e = .returned (.tuple #[]) ∧ ClerkAt w' g (s ++ (encNum ks.length ++ kidsB ks)) ∧ Below w0.heap.size w0 w' := by
  have hu := Try.underlying24
  have hu2 := Try.underlying47
  have HC := Aside0.mk hc
  have HB := Aside0.mk hb
  have HG := Aside0.mk hg
  clear hc hb hg
  have HR := Aside0.mk hr
  have HI := Aside0.mk ih
  have HS := Aside0.mk hs
  have hs1 : s.size ≤ 281474976710000 := by omega
  have hs2 := Aside0.mk (show s.size + (nd ks.length + 1) + (kidsB ks).size ≤ 281474976700000 by rw [ByteArray.size_append, encNum_size] at hs; omega)
  clear hr hl ih hs
  go_enter Try.func44, Try.ntmps44
  go_wp2_with fail
  have HC1 := Aside0.mk (HC.out.below (below_alloc (Below.refl _ w) (.cells #[.string nm, .int .i64 kd, .bool ex, .string dt, .slice A ks.length c] 24)))
  have HX1 := Aside0.mk (heap_alloc_new w (.cells #[.string nm, .int .i64 kd, .bool ex, .string dt, .slice A ks.length c] 24))
  have HB1 := Aside0.mk (below_then HB.out HB.out.size (below_alloc (Below.refl _ w) (.cells #[.string nm, .int .i64 kd, .bool ex, .string dt, .slice A ks.length c] 24)))
  generalize w.alloc (.cells #[.string nm, .int .i64 kd, .bool ex, .string dt, .slice A ks.length c] 24) = W1 at HC1 HX1 HB1 ⊢
  have q0 := EW.cell ((blk_cell HC1.out 0).trans rfl : W1.cell? ⟨g, 0, none⟩ = some (.string s))
  have q4 := EW.cell ((blk_cell HX1.out 4).trans rfl : W1.cell? ⟨w.heap.size, 4, none⟩ = some (.slice A ks.length c))
  have HNC := fun y : EW W1 => Calls.ext_of (putNum_any s ks.length (by omega) hs1 y.v)
  refine wp_region_ext_tail 12 (by kernel_rfl) (by kernel_rfl) ?_
  simp only [List.take_succ_cons, List.take_zero, List.drop_succ_cons, List.drop_zero]
  repeat (go_big_quiet_step (((go_at_call 41; exact HNC _))))
  refine wpQuiet_nil ?_
  rintro _ ⟨y, rfl⟩
  have HC2 := Aside0.mk (HC1.out.below y.h)
  have HB2 := Aside0.mk (below_then HB1.out HB1.out.size y.h)
  have HX2 := Aside0.mk (blk_below HX1.out y.h)
  generalize y.v = W2 at HC2 HB2 HX2 ⊢
  have c2 : W2.cell? ⟨g, 0, none⟩ = some (.string s) := (blk_cell HC2.out 0).trans rfl
  have hfz : W2.frozen? ⟨g, 0, none⟩ = false := blk_nofreeze HC2.out 0
  have hgw : w.heap.size ≠ g := by
    have := HC.out
    unfold ClerkAt at this
    intro e
    rw [← e, Array.getElem?_eq_none (Nat.le_refl _)] at this
    cases this
  have HC3 := Aside0.mk (show ClerkAt (W2.setCell ⟨g, 0, none⟩ (.string (s ++ encNum ks.length))) g (s ++ encNum ks.length) from (blk_store HC2.out 0 _).trans rfl)
  have HB3 := Aside0.mk (show Below w0.heap.size w0 (W2.setCell ⟨g, 0, none⟩ (.string (s ++ encNum ks.length))) from HB2.out.setCell HG.out _)
  have HX3 := (setCell_other hgw (.string (s ++ encNum ks.length)) (w := W2) (j := 0)).trans HX2.out
  have q4 : (W2.setCell ⟨g, 0, none⟩ (.string (s ++ encNum ks.length))).cell? ⟨w.heap.size, 4, none⟩ = some (.slice A ks.length c) := (blk_cell HX3 4).trans rfl
  clear HX3
  go_wp2_with fail
  clear q4 c2 hfz
  generalize W2.setCell ⟨g, 0, none⟩ (.string (s ++ encNum ks.length)) = W3 at HC3 HB3 ⊢
  clear HC2 HB2 HX2 HC1 HX1 HB1
  go_loopw [21] (fun i wr => ∃ k : Nat, k ≤ ks.length ∧ i = .int .i64 k ∧ Aside0 (ClerkAt wr g (s ++ (encNum ks.length ++ kidsB (ks.take k)))) ∧ Aside0 (Below w0.heap.size w0 wr)) (fun i _ => ks.length - (intOf i).toNat)
  case atStart => exact ⟨0, Nat.zero_le _, rfl, ⟨by simpa [kidsB] using HC3.out⟩, ⟨HB3.out⟩⟩
  case round =>
    obtain ⟨k, hk, rfl, HK, HW⟩ := hrel
    by_cases hlt : k < ks.length
    · have HT := Aside0.mk (kidsB_take ks k hlt)
      have hle : (kidsB (ks.take (k + 1))).size ≤ (kidsB ks).size := by
        conv => rhs; rw [← List.take_append_drop (k + 1) ks, kidsB_append]
        rw [ByteArray.size_append]; omega
      have HLE := Aside0.mk hle
      clear hle
      obtain ⟨ad, A4, c4', hA, e0, e1, e2, e3, e4, l4, g4⟩ := at_T24 HR.out (k : Int) (by omega) (by omega)
      obtain rfl : A = some ad := hA
      replace e0 := pw_cell_below HW.out e0
      replace e1 := pw_cell_below HW.out e1
      replace e2 := pw_cell_below HW.out e2
      replace e3 := pw_cell_below HW.out e3
      replace e4 := pw_cell_below HW.out e4
      have L4 := Aside0.mk l4
      clear l4
      have hx : rd_T24 ks (k : Int) = ks[k] := by simp [rd_T24, List.getD_eq_getElem?_getD, List.getElem?_eq_getElem hlt]
      have HM := Aside0.mk (List.getElem_mem hlt)
      rw [hx] at e0 e1 e2 e3 e4 g4 L4
      clear hx
      generalize ks[k] = x at *
      have IH := Aside0.mk (HI.out x HM.out)
      have G4 := Aside0.mk g4
      clear g4 HM
      rw [Int.toNat_natCast] at e0 e1 e2 e3 e4
      obtain ⟨s1, hs1'⟩ : ∃ s1, s ++ (encNum ks.length ++ kidsB (ks.take k)) = s1 := ⟨_, rfl⟩
      rw [hs1'] at HK
      have hT2 := Aside0.mk (show s ++ (encNum ks.length ++ kidsB (ks.take (k + 1))) = (s1 ++ textB x.f0) ++ nodeB x by rw [HT.out, ← hs1', textB]; simp only [ByteArray.append_assoc])
      have hS2 := Aside0.mk (show s1.size + (textB x.f0).size + (nodeB x).size ≤ 281474976700000 by
        have h1 := congrArg ByteArray.size hT2.out
        have h2 := HLE.out
        have h3 := HS.out
        simp only [ByteArray.size_append] at h1 h3; omega)
      have hS3 : s1.size + x.f0.size ≤ 281474976710000 := by
        have h1 := hS2.out
        unfold textB at h1
        rw [ByteArray.size_append] at h1; omega
      clear hs1' HT HLE
      go_wp2_with fail
      have hgw2 : wr.heap.size ≠ g := by
        have := HK.out
        unfold ClerkAt at this
        intro e
        rw [← e, Array.getElem?_eq_none (Nat.le_refl _)] at this
        cases this
      have K1 := Aside0.mk (HK.out.below (below_alloc (Below.refl _ wr) (.cells #[.string x.f0, .int .i64 x.f1, .bool x.f2, .string x.f3, .slice A4 x.f4.length c4'] 24)))
      have X1 := Aside0.mk (heap_alloc_new wr (.cells #[.string x.f0, .int .i64 x.f1, .bool x.f2, .string x.f3, .slice A4 x.f4.length c4'] 24))
      have B1 := Aside0.mk (below_then HW.out HW.out.size (below_alloc (Below.refl _ wr) (.cells #[.string x.f0, .int .i64 x.f1, .bool x.f2, .string x.f3, .slice A4 x.f4.length c4'] 24)))
      clear e0 e1 e2 e3 e4
      generalize wr.alloc (.cells #[.string x.f0, .int .i64 x.f1, .bool x.f2, .string x.f3, .slice A4 x.f4.length c4'] 24) = V1 at K1 X1 B1 ⊢
      have p0 := EW.cell ((blk_cell K1.out 0).trans rfl : V1.cell? ⟨g, 0, none⟩ = some (.string s1))
      have p1 := EW.cell ((blk_cell X1.out 0).trans rfl : V1.cell? ⟨wr.heap.size, 0, none⟩ = some (.string x.f0))
      have HPC := fun y : EW V1 => Calls.ext_of (wirePutText_calls s1 x.f0 hS3 y.v)
      refine wp_region_ext_tail 10 (by kernel_rfl) (by kernel_rfl) ?_
      simp only [List.take_succ_cons, List.take_zero, List.drop_succ_cons, List.drop_zero]
      repeat (go_big_quiet_step ((go_at_call 21; exact HPC _)))
      refine wpQuiet_nil ?_
      rintro _ ⟨y, rfl⟩
      have K2 := Aside0.mk (K1.out.below y.h)
      have B2 := Aside0.mk (below_then B1.out B1.out.size y.h)
      have X2 := Aside0.mk (blk_below X1.out y.h)
      generalize y.v = V2 at K2 B2 X2 ⊢
      have c2 : V2.cell? ⟨g, 0, none⟩ = some (.string s1) := (blk_cell K2.out 0).trans rfl
      have hfz : V2.frozen? ⟨g, 0, none⟩ = false := blk_nofreeze K2.out 0
      have K3 := Aside0.mk (show ClerkAt (V2.setCell ⟨g, 0, none⟩ (.string (s1 ++ textB x.f0))) g (s1 ++ textB x.f0) from (blk_store K2.out 0 _).trans rfl)
      have B3 := Aside0.mk (show Below w0.heap.size w0 (V2.setCell ⟨g, 0, none⟩ (.string (s1 ++ textB x.f0))) from B2.out.setCell HG.out _)
      have X3 := (setCell_other hgw2 (.string (s1 ++ textB x.f0)) (w := V2) (j := 0)).trans X2.out
      have r0 := (blk_cell X3 0).trans (rfl : _ = some (Value.string x.f0))
      have r1 := (blk_cell X3 1).trans (rfl : _ = some (Value.int .i64 x.f1))
      have r2 := (blk_cell X3 2).trans (rfl : _ = some (Value.bool x.f2))
      have r3 := (blk_cell X3 3).trans (rfl : _ = some (Value.string x.f3))
      have r4 := (blk_cell X3 4).trans (rfl : _ = some (Value.slice A4 x.f4.length c4'))
      clear X3
      have NC := Aside0.mk (IH.out A4 c4' g (s1 ++ textB x.f0) w0 (V2.setCell ⟨g, 0, none⟩ (.string (s1 ++ textB x.f0))) G4.out L4.out HG.out K3.out B3.out (by have := hS2.out; rw [ByteArray.size_append]; exact this))
      go_wp2_with (go_at_call 22; refine NC.out.mono ?_; rintro e w1 ⟨rfl, hk1, hb1⟩; have HK1 := Aside0.mk hk1; have HB1 := Aside0.mk hb1; clear hk1 hb1)
      go_roundw
      case rel => exact ⟨k + 1, by omega, by go_num, ⟨by rw [hT2.out]; exact HK1.out⟩, ⟨HB1.out⟩⟩
      case measure => simp [intOf]; omega
    · have hkk : ks.take k = ks := List.take_of_length_le (by omega)
      rw [hkk] at HK
      clear hkk
      go_wp2
      go_end0
      exact ⟨rfl, HK.out, HW.out⟩
set_option maxRecDepth 100000 in
set_option maxHeartbeats 1000000 in
theorem clerkNode_file (t : Tree) (hf : Fit t) (hk : t.f1 = 1) (ih : ∀ k ∈ t.f4, NodeT k) : NodeT t := by
  obtain ⟨nm, kd, ex, dt, ks⟩ := t
  dsimp only at *
  obtain rfl : kd = 1 := hk
  intro A c g s w0 w hr hl hg hc hb hs
  dsimp only at hr hl ⊢
  simp only [nodeB, Int.reduceEq, if_true, if_false, reduceIte, Int.reduceToNat] at hs ⊢
  obtain ⟨q, hq⟩ : ∃ q, (if ex = true then 1 else 0) = q := ⟨_, rfl⟩
  try rw [hq] at hs ⊢
  have HQ := Aside0.mk hq
  clear hq
  have hu := Try.underlying24
  have hu2 := Try.underlying47
  have hum := Try.underlying72
  have hui := Try.underlying3
  have HC := Aside0.mk hc
  have HB := Aside0.mk hb
  have HG := Aside0.mk hg
  have HR := Aside0.mk hr
  have HI := Aside0.mk ih
  have HF := Aside0.mk hf
  have hs1 : s.size ≤ 281474976710000 := by omega
  have HS := Aside0.mk hs
  have HL := Aside0.mk hl
  clear hc hb hg hr ih hf hs hl
  have hmf : ∀ (fn : Fn) (first cap : Array Value) (W : World), (Instr.makeFunc fn first cap).run Try.prog W = .ok (.func fn first cap) W := fun _ _ _ _ => rfl
  go_enter Try.func22, Try.ntmps22
  go_wp2_with fail
  have HC1 := Aside0.mk (HC.out.below (below_alloc (Below.refl _ w) (.cells #[.string nm, .int .i64 1, .bool ex, .string dt, .slice A ks.length c] 24)))
  have HX1 := Aside0.mk (heap_alloc_new w (.cells #[.string nm, .int .i64 1, .bool ex, .string dt, .slice A ks.length c] 24))
  have HB1 := Aside0.mk (below_then HB.out HB.out.size (below_alloc (Below.refl _ w) (.cells #[.string nm, .int .i64 1, .bool ex, .string dt, .slice A ks.length c] 24)))
  have hgw : w.heap.size ≠ g := by
    have := HC.out
    unfold ClerkAt at this
    intro e
    rw [← e, Array.getElem?_eq_none (Nat.le_refl _)] at this
    cases this
  generalize w.alloc (.cells #[.string nm, .int .i64 1, .bool ex, .string dt, .slice A ks.length c] 24) = W1 at HC1 HX1 HB1 ⊢
  have q0 := EW.cell ((blk_cell HC1.out 0).trans rfl : W1.cell? ⟨g, 0, none⟩ = some (.string s))
  have q1 := EW.cell ((blk_cell HX1.out 1).trans rfl : W1.cell? ⟨w.heap.size, 1, none⟩ = some (.int .i64 1))
  have HNC := fun y : EW W1 => Calls.ext_of (putNum_any s 1 (by decide) hs1 y.v)
  refine wp_region_ext_tail 11 (by kernel_rfl) (by kernel_rfl) ?_
  simp only [List.take_succ_cons, List.take_zero, List.drop_succ_cons, List.drop_zero]
  repeat (go_big_quiet_step ((go_at_call 41; exact HNC _)))
  refine wpQuiet_nil ?_
  rintro _ ⟨y, rfl⟩
  have HC2 := Aside0.mk (HC1.out.below y.h)
  have HB2 := Aside0.mk (below_then HB1.out HB1.out.size y.h)
  have HX2 := Aside0.mk (blk_below HX1.out y.h)
  clear HC1 HB1 HX1 HNC q0 q1
  generalize y.v = W2 at HC2 HB2 HX2 ⊢
  have c2 : W2.cell? ⟨g, 0, none⟩ = some (.string s) := (blk_cell HC2.out 0).trans rfl
  have hfz : W2.frozen? ⟨g, 0, none⟩ = false := blk_nofreeze HC2.out 0
  have K3 := Aside0.mk (show ClerkAt (W2.setCell ⟨g, 0, none⟩ (.string (s ++ encNum 1))) g (s ++ encNum 1) from (blk_store HC2.out 0 _).trans rfl)
  have B3 := Aside0.mk (show Below w0.heap.size w0 (W2.setCell ⟨g, 0, none⟩ (.string (s ++ encNum 1))) from HB2.out.setCell HG.out _)
  have X3 := Aside0.mk ((setCell_other hgw (.string (s ++ encNum 1)) (w := W2) (j := 0)).trans HX2.out)
  go_wp2_with fail
  clear HC2 HB2 HX2 c2 hfz
  generalize W2.setCell ⟨g, 0, none⟩ (.string (s ++ encNum 1)) = W3 at K3 B3 X3 ⊢
  have hmk := fun (t : TypeId) (W : World) => run_makeMap_any (P := Try.prog) t W
  rw [hmk]
  simp only [Result.andThen]
  obtain ⟨W5, W6, W7, m5, m6, m7, hb7, ha7⟩ := map3 (P := Try.prog) hum hui 1 3 2 (by decide) (by decide) (by decide) (.func (.func 42) #[.pointer (some ⟨g, 0, none⟩)] #[]) (.func (.func 43) #[.pointer (some ⟨g, 0, none⟩)] #[]) (.func (.func 44) #[.pointer (some ⟨g, 0, none⟩)] #[]) W3
  have hlk : (Instr.lookup 72 (.map (some W3.heap.size)) (.int .i64 1) false).run Try.prog W7 = .ok (.func (.func 42) #[.pointer (some ⟨g, 0, none⟩)] #[]) W7 := run_lookup_hit false hum hui (by simp [MapKept.IsKey]) ha7 rfl
  have X7 := Aside0.mk (blk_below X3.out hb7)
  have K7 := Aside0.mk (K3.out.below hb7)
  have B7 := Aside0.mk (below_then B3.out B3.out.size hb7)
  have r0 := (blk_cell X7.out 0).trans (rfl : _ = some (Value.string nm))
  have r1 := (blk_cell X7.out 1).trans (rfl : _ = some (Value.int .i64 1))
  have r2 := (blk_cell X7.out 2).trans (rfl : _ = some (Value.bool ex))
  have r3 := (blk_cell X7.out 3).trans (rfl : _ = some (Value.string dt))
  have r4 := (blk_cell X7.out 4).trans (rfl : _ = some (Value.slice A ks.length c))
  go_wp2_with fail
  refine (clerkFile_calls g (s ++ encNum 1) nm dt 1 ex A ks.length c w0 W7 HG.out K7.out B7.out (by have h1 := HS.out; simp only [ByteArray.size_append] at h1 ⊢; omega)).mono ?_
  rintro e w1 ⟨rfl, hk1, hb1⟩
  have HK1 := Aside0.mk hk1
  have HB1 := Aside0.mk hb1
  clear hk1 hb1
  go_wp2
  go_end0
  refine ⟨rfl, ?_, HB1.out⟩
  have h9 := HK1.out
  try unfold textB at h9
  try rw [HQ.out] at h9
  simpa only [ByteArray.append_assoc] using h9
set_option maxRecDepth 100000 in
set_option maxHeartbeats 1000000 in
theorem clerkNode_link (t : Tree) (hf : Fit t) (hk : t.f1 = 3) (ih : ∀ k ∈ t.f4, NodeT k) : NodeT t := by
  obtain ⟨nm, kd, ex, dt, ks⟩ := t
  dsimp only at *
  obtain rfl : kd = 3 := hk
  intro A c g s w0 w hr hl hg hc hb hs
  dsimp only at hr hl ⊢
  simp only [nodeB, Int.reduceEq, if_true, if_false, reduceIte, Int.reduceToNat] at hs ⊢
  obtain ⟨q, hq⟩ : ∃ q, (if ex = true then 1 else 0) = q := ⟨_, rfl⟩
  try rw [hq] at hs ⊢
  have HQ := Aside0.mk hq
  clear hq
  have hu := Try.underlying24
  have hu2 := Try.underlying47
  have hum := Try.underlying72
  have hui := Try.underlying3
  have HC := Aside0.mk hc
  have HB := Aside0.mk hb
  have HG := Aside0.mk hg
  have HR := Aside0.mk hr
  have HI := Aside0.mk ih
  have HF := Aside0.mk hf
  have hs1 : s.size ≤ 281474976710000 := by omega
  have HS := Aside0.mk hs
  have HL := Aside0.mk hl
  clear hc hb hg hr ih hf hs hl
  have hmf : ∀ (fn : Fn) (first cap : Array Value) (W : World), (Instr.makeFunc fn first cap).run Try.prog W = .ok (.func fn first cap) W := fun _ _ _ _ => rfl
  go_enter Try.func22, Try.ntmps22
  go_wp2_with fail
  have HC1 := Aside0.mk (HC.out.below (below_alloc (Below.refl _ w) (.cells #[.string nm, .int .i64 3, .bool ex, .string dt, .slice A ks.length c] 24)))
  have HX1 := Aside0.mk (heap_alloc_new w (.cells #[.string nm, .int .i64 3, .bool ex, .string dt, .slice A ks.length c] 24))
  have HB1 := Aside0.mk (below_then HB.out HB.out.size (below_alloc (Below.refl _ w) (.cells #[.string nm, .int .i64 3, .bool ex, .string dt, .slice A ks.length c] 24)))
  have hgw : w.heap.size ≠ g := by
    have := HC.out
    unfold ClerkAt at this
    intro e
    rw [← e, Array.getElem?_eq_none (Nat.le_refl _)] at this
    cases this
  generalize w.alloc (.cells #[.string nm, .int .i64 3, .bool ex, .string dt, .slice A ks.length c] 24) = W1 at HC1 HX1 HB1 ⊢
  have q0 := EW.cell ((blk_cell HC1.out 0).trans rfl : W1.cell? ⟨g, 0, none⟩ = some (.string s))
  have q1 := EW.cell ((blk_cell HX1.out 1).trans rfl : W1.cell? ⟨w.heap.size, 1, none⟩ = some (.int .i64 3))
  have HNC := fun y : EW W1 => Calls.ext_of (putNum_any s 3 (by decide) hs1 y.v)
  refine wp_region_ext_tail 11 (by kernel_rfl) (by kernel_rfl) ?_
  simp only [List.take_succ_cons, List.take_zero, List.drop_succ_cons, List.drop_zero]
  repeat (go_big_quiet_step ((go_at_call 41; exact HNC _)))
  refine wpQuiet_nil ?_
  rintro _ ⟨y, rfl⟩
  have HC2 := Aside0.mk (HC1.out.below y.h)
  have HB2 := Aside0.mk (below_then HB1.out HB1.out.size y.h)
  have HX2 := Aside0.mk (blk_below HX1.out y.h)
  clear HC1 HB1 HX1 HNC q0 q1
  generalize y.v = W2 at HC2 HB2 HX2 ⊢
  have c2 : W2.cell? ⟨g, 0, none⟩ = some (.string s) := (blk_cell HC2.out 0).trans rfl
  have hfz : W2.frozen? ⟨g, 0, none⟩ = false := blk_nofreeze HC2.out 0
  have K3 := Aside0.mk (show ClerkAt (W2.setCell ⟨g, 0, none⟩ (.string (s ++ encNum 3))) g (s ++ encNum 3) from (blk_store HC2.out 0 _).trans rfl)
  have B3 := Aside0.mk (show Below w0.heap.size w0 (W2.setCell ⟨g, 0, none⟩ (.string (s ++ encNum 3))) from HB2.out.setCell HG.out _)
  have X3 := Aside0.mk ((setCell_other hgw (.string (s ++ encNum 3)) (w := W2) (j := 0)).trans HX2.out)
  go_wp2_with fail
  clear HC2 HB2 HX2 c2 hfz
  generalize W2.setCell ⟨g, 0, none⟩ (.string (s ++ encNum 3)) = W3 at K3 B3 X3 ⊢
  have hmk := fun (t : TypeId) (W : World) => run_makeMap_any (P := Try.prog) t W
  rw [hmk]
  simp only [Result.andThen]
  obtain ⟨W5, W6, W7, m5, m6, m7, hb7, ha7⟩ := map3 (P := Try.prog) hum hui 1 3 2 (by decide) (by decide) (by decide) (.func (.func 42) #[.pointer (some ⟨g, 0, none⟩)] #[]) (.func (.func 43) #[.pointer (some ⟨g, 0, none⟩)] #[]) (.func (.func 44) #[.pointer (some ⟨g, 0, none⟩)] #[]) W3
  have hlk : (Instr.lookup 72 (.map (some W3.heap.size)) (.int .i64 3) false).run Try.prog W7 = .ok (.func (.func 43) #[.pointer (some ⟨g, 0, none⟩)] #[]) W7 := run_lookup_hit false hum hui (by simp [MapKept.IsKey]) ha7 rfl
  have X7 := Aside0.mk (blk_below X3.out hb7)
  have K7 := Aside0.mk (K3.out.below hb7)
  have B7 := Aside0.mk (below_then B3.out B3.out.size hb7)
  have r0 := (blk_cell X7.out 0).trans (rfl : _ = some (Value.string nm))
  have r1 := (blk_cell X7.out 1).trans (rfl : _ = some (Value.int .i64 3))
  have r2 := (blk_cell X7.out 2).trans (rfl : _ = some (Value.bool ex))
  have r3 := (blk_cell X7.out 3).trans (rfl : _ = some (Value.string dt))
  have r4 := (blk_cell X7.out 4).trans (rfl : _ = some (Value.slice A ks.length c))
  go_wp2_with fail
  refine (clerkLink_calls g (s ++ encNum 3) nm dt 3 ex A ks.length c w0 W7 HG.out K7.out B7.out (by have h1 := HS.out; simp only [ByteArray.size_append] at h1 ⊢; omega)).mono ?_
  rintro e w1 ⟨rfl, hk1, hb1⟩
  have HK1 := Aside0.mk hk1
  have HB1 := Aside0.mk hb1
  clear hk1 hb1
  go_wp2
  go_end0
  refine ⟨rfl, ?_, HB1.out⟩
  have h9 := HK1.out
  try unfold textB at h9
  try rw [HQ.out] at h9
  simpa only [ByteArray.append_assoc] using h9
set_option maxRecDepth 100000 in
set_option maxHeartbeats 1000000 in
theorem clerkNode_dir (t : Tree) (hf : Fit t) (hk : t.f1 = 2) (ih : ∀ k ∈ t.f4, NodeT k) : NodeT t := by
  obtain ⟨nm, kd, ex, dt, ks⟩ := t
  dsimp only at *
  obtain rfl : kd = 2 := hk
  intro A c g s w0 w hr hl hg hc hb hs
  dsimp only at hr hl ⊢
  simp only [nodeB, Int.reduceEq, if_true, if_false, reduceIte, Int.reduceToNat] at hs ⊢
  obtain ⟨q, hq⟩ : ∃ q, (if ex = true then 1 else 0) = q := ⟨_, rfl⟩
  try rw [hq] at hs ⊢
  have HQ := Aside0.mk hq
  clear hq
  have hu := Try.underlying24
  have hu2 := Try.underlying47
  have hum := Try.underlying72
  have hui := Try.underlying3
  have HC := Aside0.mk hc
  have HB := Aside0.mk hb
  have HG := Aside0.mk hg
  have HR := Aside0.mk hr
  have HI := Aside0.mk ih
  have HF := Aside0.mk hf
  have hs1 : s.size ≤ 281474976710000 := by omega
  have HS := Aside0.mk hs
  have HL := Aside0.mk hl
  clear hc hb hg hr ih hf hs hl
  have hmf : ∀ (fn : Fn) (first cap : Array Value) (W : World), (Instr.makeFunc fn first cap).run Try.prog W = .ok (.func fn first cap) W := fun _ _ _ _ => rfl
  go_enter Try.func22, Try.ntmps22
  go_wp2_with fail
  have HC1 := Aside0.mk (HC.out.below (below_alloc (Below.refl _ w) (.cells #[.string nm, .int .i64 2, .bool ex, .string dt, .slice A ks.length c] 24)))
  have HX1 := Aside0.mk (heap_alloc_new w (.cells #[.string nm, .int .i64 2, .bool ex, .string dt, .slice A ks.length c] 24))
  have HB1 := Aside0.mk (below_then HB.out HB.out.size (below_alloc (Below.refl _ w) (.cells #[.string nm, .int .i64 2, .bool ex, .string dt, .slice A ks.length c] 24)))
  have hgw : w.heap.size ≠ g := by
    have := HC.out
    unfold ClerkAt at this
    intro e
    rw [← e, Array.getElem?_eq_none (Nat.le_refl _)] at this
    cases this
  generalize w.alloc (.cells #[.string nm, .int .i64 2, .bool ex, .string dt, .slice A ks.length c] 24) = W1 at HC1 HX1 HB1 ⊢
  have q0 := EW.cell ((blk_cell HC1.out 0).trans rfl : W1.cell? ⟨g, 0, none⟩ = some (.string s))
  have q1 := EW.cell ((blk_cell HX1.out 1).trans rfl : W1.cell? ⟨w.heap.size, 1, none⟩ = some (.int .i64 2))
  have HNC := fun y : EW W1 => Calls.ext_of (putNum_any s 2 (by decide) hs1 y.v)
  refine wp_region_ext_tail 11 (by kernel_rfl) (by kernel_rfl) ?_
  simp only [List.take_succ_cons, List.take_zero, List.drop_succ_cons, List.drop_zero]
  repeat (go_big_quiet_step ((go_at_call 41; exact HNC _)))
  refine wpQuiet_nil ?_
  rintro _ ⟨y, rfl⟩
  have HC2 := Aside0.mk (HC1.out.below y.h)
  have HB2 := Aside0.mk (below_then HB1.out HB1.out.size y.h)
  have HX2 := Aside0.mk (blk_below HX1.out y.h)
  clear HC1 HB1 HX1 HNC q0 q1
  generalize y.v = W2 at HC2 HB2 HX2 ⊢
  have c2 : W2.cell? ⟨g, 0, none⟩ = some (.string s) := (blk_cell HC2.out 0).trans rfl
  have hfz : W2.frozen? ⟨g, 0, none⟩ = false := blk_nofreeze HC2.out 0
  have K3 := Aside0.mk (show ClerkAt (W2.setCell ⟨g, 0, none⟩ (.string (s ++ encNum 2))) g (s ++ encNum 2) from (blk_store HC2.out 0 _).trans rfl)
  have B3 := Aside0.mk (show Below w0.heap.size w0 (W2.setCell ⟨g, 0, none⟩ (.string (s ++ encNum 2))) from HB2.out.setCell HG.out _)
  have X3 := Aside0.mk ((setCell_other hgw (.string (s ++ encNum 2)) (w := W2) (j := 0)).trans HX2.out)
  go_wp2_with fail
  clear HC2 HB2 HX2 c2 hfz
  generalize W2.setCell ⟨g, 0, none⟩ (.string (s ++ encNum 2)) = W3 at K3 B3 X3 ⊢
  have hmk := fun (t : TypeId) (W : World) => run_makeMap_any (P := Try.prog) t W
  rw [hmk]
  simp only [Result.andThen]
  obtain ⟨W5, W6, W7, m5, m6, m7, hb7, ha7⟩ := map3 (P := Try.prog) hum hui 1 3 2 (by decide) (by decide) (by decide) (.func (.func 42) #[.pointer (some ⟨g, 0, none⟩)] #[]) (.func (.func 43) #[.pointer (some ⟨g, 0, none⟩)] #[]) (.func (.func 44) #[.pointer (some ⟨g, 0, none⟩)] #[]) W3
  have hlk : (Instr.lookup 72 (.map (some W3.heap.size)) (.int .i64 2) false).run Try.prog W7 = .ok (.func (.func 44) #[.pointer (some ⟨g, 0, none⟩)] #[]) W7 := run_lookup_hit false hum hui (by simp [MapKept.IsKey]) ha7 rfl
  have X7 := Aside0.mk (blk_below X3.out hb7)
  have K7 := Aside0.mk (K3.out.below hb7)
  have B7 := Aside0.mk (below_then B3.out B3.out.size hb7)
  have r0 := (blk_cell X7.out 0).trans (rfl : _ = some (Value.string nm))
  have r1 := (blk_cell X7.out 1).trans (rfl : _ = some (Value.int .i64 2))
  have r2 := (blk_cell X7.out 2).trans (rfl : _ = some (Value.bool ex))
  have r3 := (blk_cell X7.out 3).trans (rfl : _ = some (Value.string dt))
  have r4 := (blk_cell X7.out 4).trans (rfl : _ = some (Value.slice A ks.length c))
  go_wp2_with fail
  refine (clerkDir_calls g (s ++ encNum 2) nm dt 2 ex A ks c w0 W7 HR.out HL.out (by have h := HF.out.kids; dsimp only at h; omega) HG.out K7.out B7.out HI.out (by have h1 := HS.out; simp only [ByteArray.size_append] at h1 ⊢; omega)).mono ?_
  rintro e w1 ⟨rfl, hk1, hb1⟩
  have HK1 := Aside0.mk hk1
  have HB1 := Aside0.mk hb1
  clear hk1 hb1
  go_wp2
  go_end0
  refine ⟨rfl, ?_, HB1.out⟩
  have h9 := HK1.out
  try unfold textB at h9
  try rw [HQ.out] at h9
  simpa only [ByteArray.append_assoc] using h9
theorem clerkNode_any (t : Tree) (hf : Fit t) (hm : mayP t = true) : NodeT t := by
  induction hf with
  | mk t h0 h1 h3 h4 hk ih =>
    have hf := Fit.mk t h0 h1 h3 h4 hk
    obtain ⟨nm, kd, ex, dt, ks⟩ := t
    by_cases k1 : kd = 1
    · subst k1
      have hn : ks = [] := by simpa [mayP] using hm
      exact clerkNode_file _ hf rfl (by subst hn; intro k hk; cases hk)
    by_cases k2 : kd = 2
    · subst k2
      have hn : mayKids none ks = true := by simp [mayP] at hm; exact hm.2
      exact clerkNode_dir _ hf rfl (fun k hk => ih k hk (mayKids_mem none ks hn k hk))
    by_cases k3 : kd = 3
    · subst k3
      have hn : ks = [] := by simp [mayP] at hm; exact hm.1.1.1.1
      exact clerkNode_link _ hf rfl (by subst hn; intro k hk; cases hk)
    simp [mayP, k1, k2, k3] at hm
end Go.Proofs.Ytnnpfahlfmeakaa.PB

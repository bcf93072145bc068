import Derived.Test.YtalljcjignaafaaDoorQTreeKnown8
import Derived.Test.YtalljcjignaafaaDoorQTreeKnown12
import Derived.Test.YtalljcjignaafaaDoorQTreeKnown13
namespace Go.Proofs.YtalljcjignaafaaDoor.PB
open Go.RowKit Go.Proofs.YtalljcjignaafaaDoor Go.Proofs.YtalljcjignaafaaDoorW.PrintWords Go.Proofs.YtalljcjignaafaaDoorW.PrintLast
set_option linter.unusedVariables false
set_option linter.unusedSimpArgs false
theorem enters1 (x : Value) : Enters 40 #[x] := fun W => by kernel_rfl
theorem enters2 (x : Value) : Enters 41 #[x] := fun W => by kernel_rfl
theorem enters3 (x : Value) : Enters 43 #[x] := fun W => by kernel_rfl
theorem enters4 (x : Value) : Enters 45 #[x] := fun W => by kernel_rfl
theorem enters5 (x : Value) : Enters 46 #[x] := fun W => by kernel_rfl
def MayT (t : Tree) : Prop := ∀ (A : Option Addr) (c : Nat) (w : World), Kd.C k24 w A t.f4.length t.f4 → t.f4.length ≤ c →
    Calls Tryd.prog 27 #[.agg #[.string t.f0, .int .i64 t.f1, .bool t.f2, .string t.f3, .slice A t.f4.length c]] w fun e w' => e = .returned (.bool (mayP t)) ∧ Below w.heap.size w w'
/-- A node's variable. -/
def BoxAt (w : World) (b : Nat) (t : Tree) (A : Option Addr) (c : Nat) : Prop := w.heap[b]? = some (.cells #[.string t.f0, .int .i64 t.f1, .bool t.f2, .string t.f3, .slice A t.f4.length c] 24 (0, 0))
theorem BoxAt.below {w w' : World} {b : Nat} {t : Tree} {A : Option Addr} {c : Nat} (h : BoxAt w b t A c) (hb : Below w.heap.size w w') : BoxAt w' b t A c := blk_below h hb
set_option maxRecDepth 100000 in
theorem bare_calls (b : Nat) (t : Tree) (A : Option Addr) (c : Nat) (w : World) (h : BoxAt w b t A c) (hl : t.f4.length ≤ 9223372036854775807) :
    Calls Tryd.prog 40 #[.pointer (some ⟨b, 0, none⟩)] w fun e w' => e = .returned (.bool t.f4.isEmpty) ∧ Below w.heap.size w w' := by
  have hu := Tryd.underlying24
  have hc : w.cell? ⟨b, 4, none⟩ = some (.slice A t.f4.length c) := (blk_cell h 4).trans rfl
  clear h
  cases hk : t.f4 with
  | nil =>
    rw [hk] at hc
    clear hk hl
    go_enter Tryd.func40, Tryd.ntmps40
    go_wp2
    go_ret
    exact ⟨rfl, Below.refl _ _⟩
  | cons x r =>
    rw [hk] at hc hl
    clear hk
    generalize hn : (x :: r).length = n at *
    have hb : ((n : Int) == 0) = false := by rw [beq_eq_false_iff_ne]; simp at hn; omega
    clear hn
    go_enter Tryd.func40, Tryd.ntmps40
    go_wp2
    go_ret
    exact ⟨rfl, Below.refl _ _⟩
set_option maxRecDepth 100000 in
theorem plain_calls (b : Nat) (t : Tree) (A : Option Addr) (c : Nat) (w : World) (h : BoxAt w b t A c) :
    Calls Tryd.prog 41 #[.pointer (some ⟨b, 0, none⟩)] w fun e w' => e = .returned (.bool (!t.f2)) ∧ Below w.heap.size w w' := by
  have hu := Tryd.underlying24
  have hc : w.cell? ⟨b, 2, none⟩ = some (.bool t.f2) := (blk_cell h 2).trans rfl
  clear h
  go_enter Tryd.func41, Tryd.ntmps41
  go_wp2
  go_ret
  exact ⟨rfl, Below.refl _ _⟩
theorem indexByte_none (l : List UInt8) : decide (Lib.indexByte l 0 < 0) = l.all (fun c => c != 0) := by
  induction l with
  | nil => rfl
  | cons x r ih =>
    unfold Lib.indexByte
    by_cases h : x = 0
    · subst h; rfl
    · have := Lib.indexByte_ge r 0
      simp only [beq_iff_eq, h, if_false, List.all_cons, ← ih]
      by_cases h1 : Lib.indexByte r 0 = -1
      · simp [h1, h]
      · have a1 : decide (Lib.indexByte r 0 < 0) = false := decide_eq_false (by omega)
        have a2 : decide (Lib.indexByte r 0 + 1 < 0) = false := decide_eq_false (by omega)
        simp only [h1, if_false, a1, a2]; simp
set_option maxRecDepth 100000 in
theorem target_calls (b : Nat) (t : Tree) (A : Option Addr) (c : Nat) (w : World) (h : BoxAt w b t A c) (hs : t.f3.size ≤ 140737488351232) :
    Calls Tryd.prog 43 #[.pointer (some ⟨b, 0, none⟩)] w fun e w' => e = .returned (.bool (decide (1 ≤ t.f3.size) && decide (t.f3.size ≤ 255) && noZero t.f3)) ∧ Below w.heap.size w w' := by
  have hu := Tryd.underlying24
  have hc : w.cell? ⟨b, 3, none⟩ = some (.string t.f3) := (blk_cell h 3).trans rfl
  have HI := Aside0.mk (fun W => Tryd.strings_IndexByte t.f3 0 W)
  have hn := indexByte_none t.f3.data.toList
  rw [show (0 : Int).toNat.toUInt8 = (0 : UInt8) from rfl] at HI
  have HN := Aside0.mk hn
  clear h hn
  by_cases h1 : 1 ≤ t.f3.size
  · have h1' : (1 : Int) ≤ (t.f3.size : Int) := by omega
    by_cases h2 : t.f3.size ≤ 255
    · have h2' : (t.f3.size : Int) ≤ 255 := by omega
      go_enter Tryd.func43, Tryd.ntmps43
      go_wp2_with (go_at_call 44; refine (HI.out _).mono ?_; rintro e w1 ⟨rfl, rfl⟩)
      go_ret
      exact ⟨ret_boolN (by rw [noZero, ← HN.out]; simp [h1, h2]), Below.refl _ _⟩
    · go_enter Tryd.func43, Tryd.ntmps43
      go_wp2
      go_ret
      exact ⟨ret_boolN (by simp [h2] <;> omega), Below.refl _ _⟩
  · go_enter Tryd.func43, Tryd.ntmps43
    go_wp2
    go_ret
    exact ⟨ret_boolN (by simp [h1] <;> omega), Below.refl _ _⟩
set_option maxRecDepth 100000 in
theorem empty_calls (b : Nat) (t : Tree) (A : Option Addr) (c : Nat) (w : World) (h : BoxAt w b t A c) :
    Calls Tryd.prog 45 #[.pointer (some ⟨b, 0, none⟩)] w fun e w' => e = .returned (.bool t.f3.data.toList.isEmpty) ∧ Below w.heap.size w w' := by
  have hu := Tryd.underlying24
  have hc : w.cell? ⟨b, 3, none⟩ = some (.string t.f3) := (blk_cell h 3).trans rfl
  clear h
  rw [← tl_eq]
  go_enter Tryd.func45, Tryd.ntmps45
  go_wp2
  go_ret
  refine ⟨ret_boolN ?_, Below.refl _ _⟩
  cases t.f3.toList <;> rfl
/-- The name of the kid before number k. -/
def prevName (ks : List Tree) (k : Nat) : Option ByteArray := if k = 0 then none else some (rd_T24 ks ((k : Int) - 1)).f0
theorem mayKids_at (ks : List Tree) (k : Nat) (h : k < ks.length) : mayKids (prevName ks k) (ks.drop k) = (nameOk (rd_T24 ks k).f0 && mayP (rd_T24 ks k) && (match prevName ks k with | none => true | some q => strLt q (rd_T24 ks k).f0) && mayKids (prevName ks (k + 1)) (ks.drop (k + 1))) := by
  have e : rd_T24 ks (k : Int) = ks[k] := by simp [rd_T24, List.getD_eq_getElem?_getD, List.getElem?_eq_getElem h]
  have e2 : prevName ks (k + 1) = some ks[k].f0 := by simp [prevName, ← e]
  rw [List.drop_eq_getElem_cons h, e2, e]
  simp only [mayKids]
  rfl
set_option maxRecDepth 100000 in
set_option maxHeartbeats 2000000 in
theorem kids_calls (b : Nat) (t : Tree) (A : Option Addr) (c : Nat) (w : World) (h : BoxAt w b t A c) (hr : Kd.C k24 w A t.f4.length t.f4) (hln : t.f4.length ≤ 9223372036854775807) (hf : ∀ k ∈ t.f4, Fit k) (ih : ∀ k ∈ t.f4, MayT k) :
    Calls Tryd.prog 46 #[.pointer (some ⟨b, 0, none⟩)] w fun e w' => e = .returned (.bool (mayKids none t.f4)) ∧ Below w.heap.size w w' := by
  have hu := Tryd.underlying24
  obtain ⟨nm, kd, ex, dt, ks⟩ := t
  dsimp only at *
  have HI := Aside0.mk ih
  have HFit := Aside0.mk hf
  have HR := Aside0.mk hr
  have HBX := Aside0.mk (show w.heap[b]? = some (.cells #[.string nm, .int .i64 kd, .bool ex, .string dt, .slice A ks.length c] 24 (0, 0)) from h)
  have c4 : w.cell? ⟨b, 4, none⟩ = some (.slice A ks.length c) := (blk_cell HBX.out 4).trans rfl
  clear hr ih hf h
  go_enter Tryd.func46, Tryd.ntmps46
  go_wp2
  clear c4
  go_loopw [7] (fun i wr => ∃ k : Nat, k ≤ ks.length ∧ i = .int .i64 k ∧ Aside0 (mayKids none ks = mayKids (prevName ks k) (ks.drop k)) ∧ Aside0 (Below w.heap.size w wr)) (fun i wr => ks.length - (intOf i).toNat)
  case atStart => exact ⟨0, Nat.zero_le _, rfl, ⟨rfl⟩, ⟨Below.refl _ _⟩⟩
  case round =>
    obtain ⟨k, hk, rfl, HZ, HW⟩ := hrel
    have BW := Aside0.mk (blk_below HBX.out HW.out)
    have HRw := Aside0.mk (Kd.C_below HR.out HW.out)
    by_cases hlt : k < ks.length
    · have hm := mayKids_at ks k hlt
      have HM := Aside0.mk hm
      clear hm
      obtain ⟨ad, A4, c4', rfl, e0, e1, e2, e3, e4, l4, g4⟩ := at_T24 HRw.out (k : Int) (by omega) (by omega)
      have L4 := Aside0.mk l4
      clear l4
      obtain ⟨x, hx⟩ : ∃ x, rd_T24 ks (k : Int) = x := ⟨_, rfl⟩
      have hmem : x ∈ ks := by rw [← hx]; simp [rd_T24, List.getD_eq_getElem?_getD, List.getElem?_eq_getElem hlt]
      have IH := Aside0.mk (HI.out x hmem)
      have HF := Aside0.mk (HFit.out x hmem)
      rw [hx] at e0 e1 e2 e3 e4 g4 L4 HM
      have G4 := Aside0.mk g4
      clear hx hmem g4
      rw [Int.toNat_natCast] at e0 e1 e2 e3 e4
      go_wp2
      have HXB := Aside0.mk (heap_alloc_new wr (.cells #[.string x.f0, .int .i64 x.f1, .bool x.f2, .string x.f3, .slice A4 x.f4.length c4'] 24))
      have HWB := Aside0.mk (below_alloc (Below.refl _ wr) (.cells #[.string x.f0, .int .i64 x.f1, .bool x.f2, .string x.f3, .slice A4 x.f4.length c4'] 24))
      clear e0 e1 e2 e3 e4
      generalize wr.alloc (.cells #[.string x.f0, .int .i64 x.f1, .bool x.f2, .string x.f3, .slice A4 x.f4.length c4'] 24) = W1 at HXB HWB ⊢
      have f4 := EW.cell ((blk_cell (blk_below BW.out HWB.out) 4).trans rfl : W1.cell? ⟨b, 4, none⟩ = some (.slice (some ad) ks.length c))
      have q0 := EW.cell ((blk_cell HXB.out 0).trans rfl : W1.cell? ⟨wr.heap.size, 0, none⟩ = some (.string x.f0))
      have q1 := EW.cell ((blk_cell HXB.out 1).trans rfl : W1.cell? ⟨wr.heap.size, 1, none⟩ = some (.int .i64 x.f1))
      have q2 := EW.cell ((blk_cell HXB.out 2).trans rfl : W1.cell? ⟨wr.heap.size, 2, none⟩ = some (.bool x.f2))
      have q3 := EW.cell ((blk_cell HXB.out 3).trans rfl : W1.cell? ⟨wr.heap.size, 3, none⟩ = some (.string x.f3))
      have q4 := EW.cell ((blk_cell HXB.out 4).trans rfl : W1.cell? ⟨wr.heap.size, 4, none⟩ = some (.slice A4 x.f4.length c4'))
      have G4w := Aside0.mk (Kd.C_below G4.out HWB.out)
      have HB1 := Aside0.mk (below_then HW.out HW.out.size HWB.out)
      have HNC0 := Aside0.mk (fun y : EW W1 => mayName_calls x.f0 HF.out.name y.v)
      have HMC0 := Aside0.mk (fun y : EW W1 => IH.out A4 c4' y.v (Kd.C_below G4w.out y.h) L4.out)
      cases hn : nameOk x.f0 with
      | false =>
        have HN := Aside0.mk hn
        clear hn
        have HNC := fun y : EW W1 => Calls.ext_of (HN.out ▸ HNC0.out y)
        refine wp_region_ext (by kernel_rfl) (by kernel_rfl) ?_
        repeat (go_big_quiet_step ((go_at_call 47; exact HNC _)))
        refine wpQuiet_nil ?_
        rintro _ ⟨y, rfl⟩
        go_wp2
        go_ret
        refine ⟨ret_boolN ?_, below_then HB1.out HB1.out.size y.h⟩
        rw [HZ.out, HM.out, HN.out]
        simp
      | true =>
      cases hm : mayP x with
      | false =>
        have HN := Aside0.mk hn
        have HM2 := Aside0.mk hm
        clear hn hm
        have HNC := fun y : EW W1 => Calls.ext_of (HN.out ▸ HNC0.out y)
        have HMC := fun y : EW W1 => Calls.ext_of (HM2.out ▸ HMC0.out y)
        refine wp_region_ext (by kernel_rfl) (by kernel_rfl) ?_
        repeat (go_big_quiet_step ((first | (go_at_call 47; exact HNC _) | (go_at_call 27; exact HMC _))))
        refine wpQuiet_nil ?_
        rintro _ ⟨y, rfl⟩
        go_wp2
        go_ret
        refine ⟨ret_boolN ?_, below_then HB1.out HB1.out.size y.h⟩
        rw [HZ.out, HM.out, HN.out, HM2.out]
        simp
      | true =>
        have HN := Aside0.mk hn
        have HM2 := Aside0.mk hm
        clear hn hm
        have HNC := fun y : EW W1 => Calls.ext_of (HN.out ▸ HNC0.out y)
        have HMC := fun y : EW W1 => Calls.ext_of (HM2.out ▸ HMC0.out y)
        by_cases h0 : k = 0
        · have hk0 : decide ((0 : Int) < (k : Int)) = false := by simp; omega
          have hk0' : decide (0 < k) = false := by simp; omega
          have hpv : prevName ks k = none := by simp [prevName, h0]
          have HPV := Aside0.mk hpv
          have hkl : (k : Int) ≤ 0 := by omega
          clear h0 hpv
          refine wp_region_ext (by kernel_rfl) (by kernel_rfl) ?_
          repeat (go_big_quiet_step ((first | (go_at_call 47; exact HNC _) | (go_at_call 27; exact HMC _))))
          refine wpQuiet_nil ?_
          rintro _ ⟨y, rfl⟩
          go_wp2
          go_roundw
          case rel => exact ⟨k + 1, by omega, by go_num, ⟨by rw [HZ.out, HM.out, HN.out, HM2.out, HPV.out]; simp⟩, ⟨below_then HB1.out HB1.out.size y.h⟩⟩
          case measure => simp [intOf]; omega
        · have hk1 : 1 ≤ k := by omega
          clear h0
          obtain ⟨ad', B4, c5', had, d0, d1, d2, d3, d4, l5, g5⟩ := at_T24 (Kd.C_below HRw.out HWB.out) ((k : Int) - 1) (by omega) (by omega)
          obtain rfl : ad = ad' := Option.some.inj had
          obtain ⟨k', rfl⟩ : ∃ m, k = m + 1 := ⟨k - 1, by omega⟩
          rw [show ((k' + 1 : Nat) : Int) - 1 = (k' : Int) by omega, Int.toNat_natCast] at d0
          have p0 := EW.cell d0
          have hk0 : decide (0 < k' + 1) = true := by simp
          have hk0' : decide ((0 : Int) < (k' : Int) + 1) = true := by simp
          have hpv : prevName ks (k' + 1) = some (rd_T24 ks (k' : Int)).f0 := by unfold prevName; rw [if_neg (by omega)]; congr 3; omega
          obtain ⟨pn, hpn⟩ : ∃ pn, (rd_T24 ks (k' : Int)).f0 = pn := ⟨_, rfl⟩
          rw [hpn] at d0 p0 hpv
          have HPV := Aside0.mk hpv
          clear hpv hpn d0 d1 d2 d3 d4 l5 g5 had
          cases hs : Op.bytesLess pn.toList x.f0.toList with
          | false =>
            have hge : ∀ W : World, (binOp .geq 9 (.string pn) (.string x.f0)).run Tryd.prog W = .ok (.bool true) W := fun W => by simp [binOp, Op.stringOp, hs]
            refine wp_region_ext (by kernel_rfl) (by kernel_rfl) ?_
            repeat (go_big_quiet_step ((first | (go_at_call 47; exact HNC _) | (go_at_call 27; exact HMC _))))
            refine wpQuiet_nil ?_
            rintro _ ⟨y, rfl⟩
            go_wp2
            go_ret
            refine ⟨ret_boolN ?_, below_then HB1.out HB1.out.size y.h⟩
            rw [HZ.out, HM.out, HN.out, HM2.out, HPV.out]
            simp [strLt, hs]
          | true =>
            have hge : ∀ W : World, (binOp .geq 9 (.string pn) (.string x.f0)).run Tryd.prog W = .ok (.bool false) W := fun W => by simp [binOp, Op.stringOp, hs]
            refine wp_region_ext (by kernel_rfl) (by kernel_rfl) ?_
            repeat (go_big_quiet_step ((first | (go_at_call 47; exact HNC _) | (go_at_call 27; exact HMC _))))
            refine wpQuiet_nil ?_
            rintro _ ⟨y, rfl⟩
            go_wp2
            go_roundw
            case rel => exact ⟨k' + 1 + 1, by omega, by go_num, ⟨by rw [HZ.out, HM.out, HN.out, HM2.out, HPV.out]; simp [strLt, hs]⟩, ⟨below_then HB1.out HB1.out.size y.h⟩⟩
            case measure => simp [intOf]; omega
    · have hkk : k = ks.length := by omega
      have hz : mayKids none ks = true := by rw [HZ.out, hkk, List.drop_length]; simp [mayKids]
      have HZ2 := Aside0.mk hz
      clear hz hkk
      go_wp2
      go_ret
      exact ⟨ret_boolN HZ2.out.symm, HW.out⟩
set_option maxRecDepth 100000 in
set_option maxHeartbeats 1000000 in
theorem may_file (t : Tree) (hf : Fit t) (hk : t.f1 = 1) : MayT t := by
  obtain ⟨nm, kd, ex, dt, ks⟩ := t
  dsimp only at *
  obtain rfl : kd = 1 := hk
  intro A c w hr hc
  dsimp only at hr hc ⊢
  have HR := Aside0.mk hr
  have HF := Aside0.mk hf
  have HL := Aside0.mk (show ks.length ≤ 9223372036854775807 from by have h := hf.kids; dsimp only at h; omega)
  clear hr hc hf
  have hmf : ∀ (fn : Fn) (first cap : Array Value) (W : World), (Instr.makeFunc fn first cap).run Tryd.prog W = .ok (.func fn first cap) W := fun _ _ _ _ => rfl
  have hu24 := Tryd.underlying24
  have HB0 := Aside0.mk (show BoxAt (w.alloc (.cells #[.string nm, .int .i64 1, .bool ex, .string dt, .slice A ks.length c] 24)) w.heap.size ⟨nm, 1, ex, dt, ks⟩ A c from heap_alloc_new w _)
  have HW0 := Aside0.mk (below_alloc (Below.refl _ w) (.cells #[.string nm, .int .i64 1, .bool ex, .string dt, .slice A ks.length c] 24))
  go_enter Tryd.func27, Tryd.ntmps27
  go_wp2_with fail
  generalize w.alloc (.cells #[.string nm, .int .i64 1, .bool ex, .string dt, .slice A ks.length c] 24) = W1 at HB0 HW0 ⊢
  refine (bare_calls w.heap.size _ A c W1 HB0.out HL.out).mono ?_
  rintro e w1 ⟨rfl, hb⟩
  have HB := Aside0.mk hb
  clear hb
  go_wp2
  go_ret
  exact ⟨ret_boolN (by simp [mayP]), below_then HW0.out HW0.out.size HB.out⟩
set_option maxRecDepth 100000 in
set_option maxHeartbeats 1000000 in
theorem may_other (t : Tree) (hf : Fit t) (h1 : t.f1 ≠ 1) (h2 : t.f1 ≠ 2) (h3 : t.f1 ≠ 3) : MayT t := by
  obtain ⟨nm, kd, ex, dt, ks⟩ := t
  dsimp only at *
  have b1 : (kd == 1) = false := beq_eq_false_iff_ne.mpr h1
  have b2 : (kd == 2) = false := beq_eq_false_iff_ne.mpr h2
  have b3 : (kd == 3) = false := beq_eq_false_iff_ne.mpr h3
  have HP := Aside0.mk (show mayP ⟨nm, kd, ex, dt, ks⟩ = false by simp only [mayP, h1, h2, h3, if_false])
  clear h1 h2 h3
  intro A c w hr hc
  dsimp only at hr hc ⊢
  have HR := Aside0.mk hr
  have HF := Aside0.mk hf
  clear hr hc hf
  have hmf : ∀ (fn : Fn) (first cap : Array Value) (W : World), (Instr.makeFunc fn first cap).run Tryd.prog W = .ok (.func fn first cap) W := fun _ _ _ _ => rfl
  have hu24 := Tryd.underlying24
  have HB0 := Aside0.mk (show BoxAt (w.alloc (.cells #[.string nm, .int .i64 kd, .bool ex, .string dt, .slice A ks.length c] 24)) w.heap.size ⟨nm, kd, ex, dt, ks⟩ A c from heap_alloc_new w _)
  have HW0 := Aside0.mk (below_alloc (Below.refl _ w) (.cells #[.string nm, .int .i64 kd, .bool ex, .string dt, .slice A ks.length c] 24))
  go_enter Tryd.func27, Tryd.ntmps27
  go_wp2
  go_ret
  exact ⟨ret_boolN HP.out.symm, HW0.out⟩
def pick3 (x y z : Bool) : Nat → Bool | 0 => x | 1 => y | _ => z
theorem alloc_sz (w : World) (o : Obj) : (w.alloc o).heap.size = w.heap.size + 1 := Array.size_push _
theorem tells3 {w : World} {a b c : Value} {x y z : Bool} (ha : Tells w a x) (hb : Tells w b y) (hc : Tells w c z) : ∀ i fv, [a, b, c][i]? = some fv → Tells w fv (pick3 x y z i) := by
  intro i fv h
  match i, h with
  | 0, h => obtain rfl := Option.some.inj h; exact ha
  | 1, h => obtain rfl := Option.some.inj h; exact hb
  | 2, h => obtain rfl := Option.some.inj h; exact hc
  | n + 3, h => exact absurd h (by simp)
set_option maxRecDepth 100000 in
set_option maxHeartbeats 1000000 in
theorem may_link (t : Tree) (hf : Fit t) (hk : t.f1 = 3) : MayT t := by
  obtain ⟨nm, kd, ex, dt, ks⟩ := t
  dsimp only at *
  obtain rfl : kd = 3 := hk
  intro A c w hr hc
  dsimp only at hr hc ⊢
  have HR := Aside0.mk hr
  have HF := Aside0.mk hf
  have HL := Aside0.mk (show ks.length ≤ 9223372036854775807 from by have h := hf.kids; dsimp only at h; omega)
  clear hr hc hf
  have hmf : ∀ (fn : Fn) (first cap : Array Value) (W : World), (Instr.makeFunc fn first cap).run Tryd.prog W = .ok (.func fn first cap) W := fun _ _ _ _ => rfl
  have hu24 := Tryd.underlying24
  have HB0 := Aside0.mk (show BoxAt (w.alloc (.cells #[.string nm, .int .i64 3, .bool ex, .string dt, .slice A ks.length c] 24)) w.heap.size ⟨nm, 3, ex, dt, ks⟩ A c from heap_alloc_new w _)
  have HW0 := Aside0.mk (below_alloc (Below.refl _ w) (.cells #[.string nm, .int .i64 3, .bool ex, .string dt, .slice A ks.length c] 24))
  have HW0sz : (w.alloc (.cells #[.string nm, .int .i64 3, .bool ex, .string dt, .slice A ks.length c] 24)).heap.size = w.heap.size + 1 := alloc_sz _ _
  go_enter Tryd.func27, Tryd.ntmps27
  go_wp2_with fail
  generalize w.alloc (.cells #[.string nm, .int .i64 3, .bool ex, .string dt, .slice A ks.length c] 24) = W1 at HB0 HW0 HW0sz ⊢
  have HB2 := Aside0.mk (HB0.out.below (below_alloc (Below.refl _ W1) (.cells #[(.func (.func 40) #[] #[.pointer (some ⟨w.heap.size, 0, none⟩)]), (.func (.func 41) #[] #[.pointer (some ⟨w.heap.size, 0, none⟩)]), (.func (.func 43) #[] #[.pointer (some ⟨w.heap.size, 0, none⟩)])] 25)))
  have HW2 := Aside0.mk (below_then HW0.out HW0.out.size (below_alloc (Below.refl _ W1) (.cells #[(.func (.func 40) #[] #[.pointer (some ⟨w.heap.size, 0, none⟩)]), (.func (.func 41) #[] #[.pointer (some ⟨w.heap.size, 0, none⟩)]), (.func (.func 43) #[] #[.pointer (some ⟨w.heap.size, 0, none⟩)])] 25)))
  have HN2 := Aside0.mk (heap_alloc_new W1 (.cells #[(.func (.func 40) #[] #[.pointer (some ⟨w.heap.size, 0, none⟩)]), (.func (.func 41) #[] #[.pointer (some ⟨w.heap.size, 0, none⟩)]), (.func (.func 43) #[] #[.pointer (some ⟨w.heap.size, 0, none⟩)])] 25))
  rw [show W1.heap.size = w.heap.size + 1 from HW0sz] at HN2
  generalize W1.alloc (.cells #[(.func (.func 40) #[] #[.pointer (some ⟨w.heap.size, 0, none⟩)]), (.func (.func 41) #[] #[.pointer (some ⟨w.heap.size, 0, none⟩)]), (.func (.func 43) #[] #[.pointer (some ⟨w.heap.size, 0, none⟩)])] 25) = W2 at HB2 HW2 HN2 ⊢
  refine (all_any [(.func (.func 40) #[] #[.pointer (some ⟨w.heap.size, 0, none⟩)]), (.func (.func 41) #[] #[.pointer (some ⟨w.heap.size, 0, none⟩)]), (.func (.func 43) #[] #[.pointer (some ⟨w.heap.size, 0, none⟩)])] _ (w.heap.size + 1) 25 W2 HN2.out (by simp) (tells3 (⟨_, _, rfl, enters1 _, fun W hW => bare_calls w.heap.size _ A c W (HB2.out.below hW) HL.out⟩) (⟨_, _, rfl, enters2 _, fun W hW => plain_calls w.heap.size _ A c W (HB2.out.below hW)⟩) (⟨_, _, rfl, enters3 _, fun W hW => target_calls w.heap.size _ A c W (HB2.out.below hW) HF.out.data⟩))).mono ?_
  rintro e w1 ⟨rfl, hb⟩
  have HB3 := Aside0.mk hb
  clear hb
  go_wp2
  go_ret
  exact ⟨ret_boolN (by simp [mayP, pick3, Bool.and_assoc]), below_then HW2.out HW2.out.size HB3.out⟩
set_option maxRecDepth 100000 in
set_option maxHeartbeats 1000000 in
theorem may_dir (t : Tree) (hf : Fit t) (hk : t.f1 = 2) (ih : ∀ k ∈ t.f4, MayT k) : MayT t := by
  obtain ⟨nm, kd, ex, dt, ks⟩ := t
  dsimp only at *
  obtain rfl : kd = 2 := hk
  intro A c w hr hc
  dsimp only at hr hc ⊢
  have HR := Aside0.mk hr
  have HF := Aside0.mk hf
  have HL := Aside0.mk (show ks.length ≤ 9223372036854775807 from by have h := hf.kids; dsimp only at h; omega)
  have HI := Aside0.mk ih
  clear hr hc hf ih
  have hmf : ∀ (fn : Fn) (first cap : Array Value) (W : World), (Instr.makeFunc fn first cap).run Tryd.prog W = .ok (.func fn first cap) W := fun _ _ _ _ => rfl
  have hu24 := Tryd.underlying24
  have HB0 := Aside0.mk (show BoxAt (w.alloc (.cells #[.string nm, .int .i64 2, .bool ex, .string dt, .slice A ks.length c] 24)) w.heap.size ⟨nm, 2, ex, dt, ks⟩ A c from heap_alloc_new w _)
  have HW0 := Aside0.mk (below_alloc (Below.refl _ w) (.cells #[.string nm, .int .i64 2, .bool ex, .string dt, .slice A ks.length c] 24))
  have HW0sz : (w.alloc (.cells #[.string nm, .int .i64 2, .bool ex, .string dt, .slice A ks.length c] 24)).heap.size = w.heap.size + 1 := alloc_sz _ _
  go_enter Tryd.func27, Tryd.ntmps27
  go_wp2_with fail
  generalize w.alloc (.cells #[.string nm, .int .i64 2, .bool ex, .string dt, .slice A ks.length c] 24) = W1 at HB0 HW0 HW0sz ⊢
  have HB2 := Aside0.mk (HB0.out.below (below_alloc (Below.refl _ W1) (.cells #[(.func (.func 41) #[] #[.pointer (some ⟨w.heap.size, 0, none⟩)]), (.func (.func 45) #[] #[.pointer (some ⟨w.heap.size, 0, none⟩)]), (.func (.func 46) #[] #[.pointer (some ⟨w.heap.size, 0, none⟩)])] 25)))
  have HW2 := Aside0.mk (below_then HW0.out HW0.out.size (below_alloc (Below.refl _ W1) (.cells #[(.func (.func 41) #[] #[.pointer (some ⟨w.heap.size, 0, none⟩)]), (.func (.func 45) #[] #[.pointer (some ⟨w.heap.size, 0, none⟩)]), (.func (.func 46) #[] #[.pointer (some ⟨w.heap.size, 0, none⟩)])] 25)))
  have HN2 := Aside0.mk (heap_alloc_new W1 (.cells #[(.func (.func 41) #[] #[.pointer (some ⟨w.heap.size, 0, none⟩)]), (.func (.func 45) #[] #[.pointer (some ⟨w.heap.size, 0, none⟩)]), (.func (.func 46) #[] #[.pointer (some ⟨w.heap.size, 0, none⟩)])] 25))
  rw [show W1.heap.size = w.heap.size + 1 from HW0sz] at HN2
  generalize W1.alloc (.cells #[(.func (.func 41) #[] #[.pointer (some ⟨w.heap.size, 0, none⟩)]), (.func (.func 45) #[] #[.pointer (some ⟨w.heap.size, 0, none⟩)]), (.func (.func 46) #[] #[.pointer (some ⟨w.heap.size, 0, none⟩)])] 25) = W2 at HB2 HW2 HN2 ⊢
  refine (all_any [(.func (.func 41) #[] #[.pointer (some ⟨w.heap.size, 0, none⟩)]), (.func (.func 45) #[] #[.pointer (some ⟨w.heap.size, 0, none⟩)]), (.func (.func 46) #[] #[.pointer (some ⟨w.heap.size, 0, none⟩)])] _ (w.heap.size + 1) 25 W2 HN2.out (by simp) (tells3 (⟨_, _, rfl, enters2 _, fun W hW => plain_calls w.heap.size _ A c W (HB2.out.below hW)⟩) (⟨_, _, rfl, enters4 _, fun W hW => empty_calls w.heap.size _ A c W (HB2.out.below hW)⟩) (⟨_, _, rfl, enters5 _, fun W hW => kids_calls w.heap.size _ A c W (HB2.out.below hW) (Kd.C_below HR.out (below_then HW2.out HW2.out.size hW)) HL.out HF.out.kid HI.out⟩))).mono ?_
  rintro e w1 ⟨rfl, hb⟩
  have HB3 := Aside0.mk hb
  clear hb
  go_wp2
  go_ret
  exact ⟨ret_boolN (by simp [mayP, pick3, Bool.and_assoc]), below_then HW2.out HW2.out.size HB3.out⟩
theorem may_any (t : Tree) (hf : Fit t) : MayT t := by
  induction hf with
  | mk t h0 h1 h3 h4 hk ih =>
    have hf := Fit.mk t h0 h1 h3 h4 hk
    by_cases k1 : t.f1 = 1
    · exact may_file t hf k1
    by_cases k2 : t.f1 = 2
    · exact may_dir t hf k2 ih
    by_cases k3 : t.f1 = 3
    · exact may_link t hf k3
    exact may_other t hf k1 k2 k3
open Classical in
noncomputable def tree_may.f (a0 : ByteArray) (a1 : Int) (a2 : Bool) (a3 : ByteArray) (l : List S24) : Option Bool := if Fit ⟨a0, a1, a2, a3, l⟩ then some (mayP ⟨a0, a1, a2, a3, l⟩) else none
theorem tree_may.calls (a0_0 : ByteArray) (a0_1 : Int) (a0_2 : Bool) (a0_3 : ByteArray) (A0_4 : Option Addr) (c0_4 : Nat) (l0_4 : List S24) (r : Bool) (w : World) (hr0_4 : Kd.C k24 w A0_4 l0_4.length l0_4) (hc0_4 : l0_4.length ≤ c0_4) (h : tree_may.f a0_0 a0_1 a0_2 a0_3 l0_4 = some r) :
    Calls Tryd.prog 27 #[.agg #[.string a0_0, .int .i64 a0_1, .bool a0_2, .string a0_3, .slice A0_4 l0_4.length c0_4]] w fun e w' => e = .returned (.bool r) ∧ Below w.heap.size w w' := by
  unfold tree_may.f at h
  split at h
  · rename_i hf
    obtain rfl := Option.some.inj h
    exact may_any ⟨a0_0, a0_1, a0_2, a0_3, l0_4⟩ hf A0_4 c0_4 w hr0_4 hc0_4
  · cases h
end Go.Proofs.YtalljcjignaafaaDoor.PB

import Derived.Test.YtnnpfahlfmeakaaQNarReads5
import Derived.Test.YtnnpfahlfmeakaaQNarReads7
import Derived.Test.YtnnpfahlfmeakaaQNarReads10
import Derived.Test.YtnnpfahlfmeakaaQNarReads21
namespace Go.Proofs.Ytnnpfahlfmeakaa.PB
open Go.RowKit Go.Proofs.Ytnnpfahlfmeakaa Go.Proofs.YtnnpfahlfmeakaaW.PrintWords Go.Proofs.YtnnpfahlfmeakaaW.PrintLast
set_option linter.unusedVariables false
set_option linter.unusedSimpArgs false
theorem ret_bool {a b : Bool} (h : a = b) : Ending.returned (.bool a) = .returned (.bool b) := by rw [h]
theorem bt_nat (s : ByteArray) (k : Nat) (h : k < s.size) : bt s (k : Int) = (s[k].toNat : Int) := by
  unfold bt
  rw [dif_pos (by simpa using h)]
  simp
theorem refName_loop (s : ByteArray) (hs : s.size ≤ 9223372036854775807) (d : Nat) : ∀ (k : Nat), k ≤ s.size → s.size - k = d → ∀ f, d < f →
    whiskref06_Name.l0 f s (k : Int) = some ((s.data.toList.drop k).all nmByte && decide (1 ≤ s.size) && decide (s.size ≤ 56) && !(s.data.toList == [46]) && !(s.data.toList == [46, 46])) := by
  induction d with
  | zero =>
    intro k hk hd f hf
    obtain ⟨f, rfl⟩ : ∃ m, f = m + 1 := ⟨f - 1, by omega⟩
    have e : s.data.toList.drop k = [] := List.drop_eq_nil_of_le (by rw [data_length]; omega)
    simp only [whiskref06_Name.l0]
    rw [if_neg (by omega), e, tl_eq]
    by_cases h1 : 1 ≤ s.size
    · rw [if_pos (by omega)]
      by_cases h2 : s.size ≤ 56
      · rw [if_pos (by omega)]
        by_cases h3 : s.data.toList = [46]
        · rw [if_pos h3]; simp [h1, h2, h3]
        · rw [if_neg h3]
          have e3 : (s.data.toList == [46]) = false := beq_eq_false_iff_ne.2 h3
          simp [h1, h2, e3, bne]
      · rw [if_neg (by omega)]; simp [h2]
    · rw [if_neg (by omega)]; simp [h1]
  | succ d ih =>
    intro k hk hd f hf
    obtain ⟨f, rfl⟩ : ∃ m, f = m + 1 := ⟨f - 1, by omega⟩
    have hlt : k < s.size := by omega
    simp only [whiskref06_Name.l0]
    rw [if_pos (by omega), if_pos (by omega), bt_nat s k hlt]
    have e : s.data.toList.drop k = s[k] :: s.data.toList.drop (k + 1) := by
      rw [List.drop_eq_getElem_cons (by rw [data_length]; exact hlt)]; rfl
    rw [e, List.all_cons]
    by_cases h1 : s[k] = 47
    · rw [if_pos (by rw [h1]; rfl)]
      have e5 : nmByte s[k] = false := by simp [nmByte, h1]
      rw [e5]; rfl
    · rw [if_neg (by intro h; apply h1; apply UInt8.toNat_inj.1; show s[k].toNat = 47; omega)]
      by_cases h2 : s[k] = 0
      · rw [if_pos (by rw [h2]; rfl)]
        have e5 : nmByte s[k] = false := by simp [nmByte, h2]
        rw [e5]; rfl
      · rw [if_neg (by intro h; apply h2; apply UInt8.toNat_inj.1; show s[k].toNat = 0; omega)]
        have hw : wrap64 ((k : Int) + 1) = ((k + 1 : Nat) : Int) := by unfold wrap64; omega
        rw [hw, ih (k + 1) (by omega) (by omega) f (by omega)]
        have e5 : nmByte s[k] = true := by simp [nmByte, h1, h2]
        rw [e5, Bool.true_and]
theorem refName_eq (s : ByteArray) (hs : s.size ≤ 9223372036854775807) : whiskref06_Name.f (s.size + 1) s = some (nameOk s) := by
  have := refName_loop s hs s.size 0 (Nat.zero_le _) rfl (s.size + 1) (by omega)
  exact this
theorem refName_calls (s : ByteArray) (hs : s.size ≤ 9223372036854775807) (w : World) : Calls Try.prog 69 #[.string s] w fun e w' => e = .returned (.bool (nameOk s)) ∧ Below w.heap.size w w' :=
  (whiskref06_Name.calls _ s _ w (refName_eq s hs)).mono fun e w' ⟨h1, h2⟩ => ⟨h1, h2.below⟩
def MayAt (t : Tree) : Prop := ∀ (A : Option Addr) (c : Nat) (w : World), Kd.C k24 w A t.f4.length t.f4 → t.f4.length ≤ c →
    Calls Try.prog 45 #[.agg #[.string t.f0, .int .i64 t.f1, .bool t.f2, .string t.f3, .slice A t.f4.length c]] w fun e w' => e = .returned (.bool (mayP t)) ∧ Below w.heap.size w w'
set_option maxRecDepth 100000 in
set_option maxHeartbeats 1000000 in
theorem refMay_file (t : Tree) (hk : t.f1 = 1) : MayAt t := by
  obtain ⟨nm, kd, ex, dt, ks⟩ := t
  obtain rfl : kd = 1 := hk
  intro A c w hr hc
  clear hr hc
  have hu24 := Try.underlying24
  go_enter Try.func45, Try.ntmps45
  go_wp2
  go_ret
  refine ⟨ret_bool ?_, (Below.refl _ _).alloc (Nat.le_refl _) _⟩
  cases ks <;> simp [mayP]; omega
set_option maxRecDepth 100000 in
set_option maxHeartbeats 1000000 in
theorem refMay_other (t : Tree) (h1 : t.f1 ≠ 1) (h2 : t.f1 ≠ 2) (h3 : t.f1 ≠ 3) : MayAt t := by
  obtain ⟨nm, kd, ex, dt, ks⟩ := t
  intro A c w hr hc
  clear hr hc
  have hu24 := Try.underlying24
  have b1 : (kd == 1) = false := beq_eq_false_iff_ne.mpr h1
  have b2 : (kd == 2) = false := beq_eq_false_iff_ne.mpr h2
  have b3 : (kd == 3) = false := beq_eq_false_iff_ne.mpr h3
  clear h1 h2 h3
  go_enter Try.func45, Try.ntmps45
  go_wp2
  go_ret
  refine ⟨ret_bool ?_, (Below.refl _ _).alloc (Nat.le_refl _) _⟩
  simp only [mayP, (beq_eq_false_iff_ne.mp b1), (beq_eq_false_iff_ne.mp b2), (beq_eq_false_iff_ne.mp b3), if_false]
theorem noZero_take (s : ByteArray) (k : Nat) (h : k < s.size) : (s.data.toList.take (k + 1)).all (fun c => c != 0) = ((s.data.toList.take k).all (fun c => c != 0) && (s[k] != 0)) := by
  rw [List.take_succ_eq_append_getElem (by simpa using h), List.all_append]
  simp
  rfl
set_option maxRecDepth 100000 in
set_option maxHeartbeats 1000000 in
theorem refMay_link (t : Tree) (hk : t.f1 = 3) (hsz : t.f3.size ≤ 9223372036854775807) : MayAt t := by
  obtain ⟨nm, kd, ex, dt, ks⟩ := t
  obtain rfl : kd = 3 := hk
  intro A c w hr hc
  clear hr hc
  have hu24 := Try.underlying24
  dsimp only at hsz ⊢
  go_enter Try.func45, Try.ntmps45
  go_wp2
  have BK := Aside0.mk (heap_alloc_new w (Obj.cells #[Value.string nm, .int .i64 3, Value.bool ex, Value.string dt, Value.slice A ks.length c] 24))
  have HB := Aside0.mk (below_alloc (Below.refl _ w) (Obj.cells #[Value.string nm, .int .i64 3, Value.bool ex, Value.string dt, Value.slice A ks.length c] 24))
  generalize (w.alloc (Obj.cells #[Value.string nm, .int .i64 3, Value.bool ex, Value.string dt, Value.slice A ks.length c] 24)) = W1 at BK HB ⊢
  have c2 : W1.cell? ⟨w.heap.size, 2, none⟩ = some (.bool ex) := (blk_cell BK.out 2).trans rfl
  have c3 : W1.cell? ⟨w.heap.size, 3, none⟩ = some (.string dt) := (blk_cell BK.out 3).trans rfl
  have c4 : W1.cell? ⟨w.heap.size, 4, none⟩ = some (.slice A ks.length c) := (blk_cell BK.out 4).trans rfl
  go_loop [3] (fun i => ∃ k : Nat, k ≤ dt.size ∧ i = .int .i64 k ∧ Aside0 ((dt.data.toList.take k).all (fun c => c != 0) = true)) (fun i => dt.size - (intOf i).toNat)
  case atStart => exact ⟨0, Nat.zero_le _, rfl, ⟨rfl⟩⟩
  case round =>
    obtain ⟨k, hk, rfl, HZ⟩ := hrel
    by_cases hlt : k < dt.size
    · have hz := noZero_take dt k hlt
      rw [HZ.out, Bool.true_and] at hz
      have HZ2 := Aside0.mk hz
      clear hz
      by_cases h0 : dt[k] = 0
      · have hb0 : ((dt[k].toNat : Int) == 0) = true := by rw [h0]; rfl
        go_wp2
        go_ret
        refine ⟨ret_bool ?_, HB.out⟩
        have : noZero dt = false := by
          unfold noZero
          rw [List.all_eq_false]
          exact ⟨dt[k], Array.getElem_mem_toList _, by simp [h0]⟩
        simp [mayP, this]
      · have hb0 : ((dt[k].toNat : Int) == 0) = false := by
          rw [beq_eq_false_iff_ne]; intro h; apply h0; apply UInt8.toNat_inj.1; simpa using h
        have HZ3 : Aside0 ((dt.data.toList.take (k + 1)).all (fun c => c != 0) = true) := ⟨by rw [HZ2.out]; simpa using h0⟩
        clear h0
        go_wp2
        go_round
        case rel => exact ⟨k + 1, by omega, by go_num, HZ3⟩
        case measure => simp [intOf]; omega
    · have hz : noZero dt = true := by
        unfold noZero
        have := HZ.out
        rwa [List.take_of_length_le (by simp; omega)] at this
      have HN := Aside0.mk hz
      clear hz
      cases ex with
      | true =>
        go_wp2
        go_ret
        refine ⟨ret_bool ?_, HB.out⟩
        simp [mayP]
      | false =>
        by_cases hks : ks.length = 0
        · have hks' : ((ks.length : Int) == 0) = true := by rw [hks]; rfl
          by_cases h1 : 1 ≤ dt.size
          · by_cases h2 : dt.size ≤ 255
            · go_wp2
              go_ret
              refine ⟨ret_bool ?_, HB.out⟩
              simp [mayP, HN.out, List.eq_nil_of_length_eq_zero hks, h1, h2] <;> omega
            · go_wp2
              go_ret
              refine ⟨ret_bool ?_, HB.out⟩
              simp [mayP, HN.out, List.eq_nil_of_length_eq_zero hks, h1, h2] <;> omega
          · go_wp2
            go_ret
            refine ⟨ret_bool ?_, HB.out⟩
            simp [mayP, HN.out, List.eq_nil_of_length_eq_zero hks, h1] <;> omega
        · have hks' : ((ks.length : Int) == 0) = false := by rw [beq_eq_false_iff_ne]; omega
          go_wp2
          go_ret
          refine ⟨ret_bool ?_, HB.out⟩
          cases ks with
          | nil => simp at hks
          | cons a b => simp [mayP]
/-- The name of the kid before number k. -/
def prevOf (ks : List Tree) (k : Nat) : Option ByteArray := if k = 0 then none else some (rd_T24 ks ((k : Int) - 1)).f0
theorem mayKids_drop (ks : List Tree) (k : Nat) (h : k < ks.length) : mayKids (prevOf ks k) (ks.drop k) = (nameOk (rd_T24 ks k).f0 && mayP (rd_T24 ks k) && (match prevOf ks k with | none => true | some q => strLt q (rd_T24 ks k).f0) && mayKids (prevOf ks (k + 1)) (ks.drop (k + 1))) := by
  have e : rd_T24 ks (k : Int) = ks[k] := by simp [rd_T24, List.getD_eq_getElem?_getD, List.getElem?_eq_getElem h]
  have e2 : prevOf ks (k + 1) = some ks[k].f0 := by simp [prevOf, ← e]
  rw [List.drop_eq_getElem_cons h, e2, e]
  simp only [mayKids]
  rfl
set_option maxRecDepth 100000 in
set_option maxHeartbeats 2000000 in
theorem refMay_dir (t : Tree) (hk : t.f1 = 2) (ih : ∀ k ∈ t.f4, MayAt k) (hfit : Fit t) : MayAt t := by
  have hln : t.f4.length ≤ 9223372036854775807 := by have := hfit.kids; omega
  have HFit := Aside0.mk hfit.kid
  clear hfit
  obtain ⟨nm, kd, ex, dt, ks⟩ := t
  obtain rfl : kd = 2 := hk
  intro A c w hr hc
  dsimp only at hr hc ih hln HFit ⊢
  have HI := Aside0.mk ih
  have HR := Aside0.mk hr
  have HC := Aside0.mk hc
  clear hr hc ih
  have hu24 := Try.underlying24
  go_enter Try.func45, Try.ntmps45
  go_wp2
  have BK := Aside0.mk (heap_alloc_new w (Obj.cells #[Value.string nm, .int .i64 2, Value.bool ex, Value.string dt, Value.slice A ks.length c] 24))
  have HB := Aside0.mk (below_alloc (Below.refl _ w) (Obj.cells #[Value.string nm, .int .i64 2, Value.bool ex, Value.string dt, Value.slice A ks.length c] 24))
  generalize (w.alloc (Obj.cells #[Value.string nm, .int .i64 2, Value.bool ex, Value.string dt, Value.slice A ks.length c] 24)) = W1 at BK HB ⊢
  go_loopw [4] (fun i wr => ∃ k : Nat, k ≤ ks.length ∧ i = .int .i64 k ∧ Aside0 (mayKids none ks = mayKids (prevOf ks k) (ks.drop k)) ∧ Aside0 (Below W1.heap.size W1 wr)) (fun i wr => ks.length - (intOf i).toNat)
  case atStart => exact ⟨0, Nat.zero_le _, rfl, ⟨rfl⟩, ⟨Below.refl _ _⟩⟩
  case round =>
    obtain ⟨k, hk, rfl, HZ, HW⟩ := hrel
    have BW := Aside0.mk (blk_below BK.out HW.out)
    have HBw := Aside0.mk (below_then HB.out HB.out.size HW.out)
    have HRw := Aside0.mk (Kd.C_below HR.out HBw.out)
    have c2 : wr.cell? ⟨w.heap.size, 2, none⟩ = some (.bool ex) := (blk_cell BW.out 2).trans rfl
    have c3 : wr.cell? ⟨w.heap.size, 3, none⟩ = some (.string dt) := (blk_cell BW.out 3).trans rfl
    have c4 : wr.cell? ⟨w.heap.size, 4, none⟩ = some (.slice A ks.length c) := (blk_cell BW.out 4).trans rfl
    by_cases hlt : k < ks.length
    · have hm := mayKids_drop ks k hlt
      have HM := Aside0.mk hm
      clear hm
      obtain ⟨ad, A4, c4', rfl, e0, e1, e2, e3, e4, l4, g4⟩ := at_T24 HRw.out (k : Int) (by omega) (by omega)
      have G4 := Aside0.mk g4
      have L4 := Aside0.mk l4
      clear g4 l4
      obtain ⟨x, hx⟩ : ∃ x, rd_T24 ks (k : Int) = x := ⟨_, rfl⟩
      have hmem : x ∈ ks := by rw [← hx]; simp [rd_T24, List.getD_eq_getElem?_getD, List.getElem?_eq_getElem hlt]
      have IH := Aside0.mk (HI.out x hmem)
      have HF := Aside0.mk (HFit.out x hmem)
      rw [hx] at e0 e1 e2 e3 e4 G4 L4 HM
      clear hx hmem
      rw [Int.toNat_natCast] at e0 e1 e2 e3 e4
      have f4 := EW.cell c4
      have q0 := EW.cell e0
      have q1 := EW.cell e1
      have q2 := EW.cell e2
      have q3 := EW.cell e3
      have q4 := EW.cell e4
      cases hn : nameOk x.f0 with
      | false =>
        have HN := Aside0.mk hn
        clear hn
        have HNC := fun y : EW wr => Calls.ext_of (HN.out ▸ refName_calls x.f0 (by have := (HF.out).name; omega) y.v)
        go_wp2
        refine wp_region_ext (by kernel_rfl) (by kernel_rfl) ?_
        repeat (go_big_quiet_step (((go_at_call 69; exact HNC _))))
        refine wpQuiet_nil ?_
        rintro _ ⟨y, rfl⟩
        go_wp2
        go_ret
        refine ⟨ret_bool ?_, below_then HBw.out HBw.out.size y.h⟩
        rw [show mayP ⟨nm, 2, ex, dt, ks⟩ = (!ex && dt.data.toList.isEmpty && mayKids none ks) by simp [mayP], HZ.out, HM.out, HN.out]
        simp
      | true =>
      cases hm : mayP x with
      | false =>
        have HN := Aside0.mk hn
        have HM2 := Aside0.mk hm
        clear hn hm
        have HNC := fun y : EW wr => Calls.ext_of (HN.out ▸ refName_calls x.f0 (by have := (HF.out).name; omega) y.v)
        have HMC := fun y : EW wr => Calls.ext_of (HM2.out ▸ IH.out A4 c4' y.v (Kd.C_below G4.out y.h) L4.out)
        go_wp2
        refine wp_region_ext (by kernel_rfl) (by kernel_rfl) ?_
        repeat (go_big_quiet_step (((first | (go_at_call 69; exact HNC _) | (go_at_call 45; exact HMC _)))))
        refine wpQuiet_nil ?_
        rintro _ ⟨y, rfl⟩
        go_wp2
        go_ret
        refine ⟨ret_bool ?_, below_then HBw.out HBw.out.size y.h⟩
        rw [show mayP ⟨nm, 2, ex, dt, ks⟩ = (!ex && dt.data.toList.isEmpty && mayKids none ks) by simp [mayP], HZ.out, HM.out, HN.out, HM2.out]
        simp
      | true =>
        have HN := Aside0.mk hn
        have HM2 := Aside0.mk hm
        clear hn hm
        have HNC := fun y : EW wr => Calls.ext_of (HN.out ▸ refName_calls x.f0 (by have := (HF.out).name; omega) y.v)
        have HMC := fun y : EW wr => Calls.ext_of (HM2.out ▸ IH.out A4 c4' y.v (Kd.C_below G4.out y.h) L4.out)
        by_cases h0 : k = 0
        · have hk0 : decide ((0 : Int) < (k : Int)) = false := by simp; omega
          have hk0' : decide (0 < k) = false := by simp; omega
          have hpv : prevOf ks k = none := by simp [prevOf, h0]
          have HPV := Aside0.mk hpv
          have hkl : (k : Int) ≤ 0 := by omega
          clear h0 hpv
          go_wp2
          refine wp_region_ext (by kernel_rfl) (by kernel_rfl) ?_
          repeat (go_big_quiet_step (((first | (go_at_call 69; exact HNC _) | (go_at_call 45; exact HMC _)))))
          refine wpQuiet_nil ?_
          rintro _ ⟨y, rfl⟩
          go_wp2
          go_roundw
          case rel => exact ⟨k + 1, by omega, by go_num, ⟨by rw [HZ.out, HM.out, HN.out, HM2.out, HPV.out]; simp⟩, ⟨below_then HW.out HW.out.size y.h⟩⟩
          case measure => simp [intOf]; omega
        · have hk1 : 1 ≤ k := by omega
          clear h0
          obtain ⟨ad', B4, c5', had, d0, d1, d2, d3, d4, l5, g5⟩ := at_T24 HRw.out ((k : Int) - 1) (by omega) (by omega)
          obtain rfl : ad = ad' := Option.some.inj had
          obtain ⟨k', rfl⟩ : ∃ m, k = m + 1 := ⟨k - 1, by omega⟩
          rw [show ((k' + 1 : Nat) : Int) - 1 = (k' : Int) by omega, Int.toNat_natCast] at d0
          have p0 := EW.cell d0
          have hk0 : decide (0 < k' + 1) = true := by simp
          have hk0' : decide ((0 : Int) < (k' : Int) + 1) = true := by simp
          have hpv : prevOf ks (k' + 1) = some (rd_T24 ks (k' : Int)).f0 := by unfold prevOf; rw [if_neg (by omega)]; congr 3; omega
          obtain ⟨pn, hpn⟩ : ∃ pn, (rd_T24 ks (k' : Int)).f0 = pn := ⟨_, rfl⟩
          rw [hpn] at d0 p0 hpv
          have HPV := Aside0.mk hpv
          clear hpv hpn d1 d2 d3 d4 l5 g5 had
          cases hs : Op.bytesLess pn.toList x.f0.toList with
          | false =>
            have hge : ∀ W : World, (binOp .geq 9 (.string pn) (.string x.f0)).run Try.prog W = .ok (.bool true) W := fun W => by simp [binOp, Op.stringOp, hs]
            go_wp2
            refine wp_region_ext (by kernel_rfl) (by kernel_rfl) ?_
            repeat (go_big_quiet_step (((first | (go_at_call 69; exact HNC _) | (go_at_call 45; exact HMC _)))))
            refine wpQuiet_nil ?_
            rintro _ ⟨y, rfl⟩
            go_wp2
            go_ret
            refine ⟨ret_bool ?_, below_then HBw.out HBw.out.size y.h⟩
            rw [show mayP ⟨nm, 2, ex, dt, ks⟩ = (!ex && dt.data.toList.isEmpty && mayKids none ks) by simp [mayP], HZ.out, HM.out, HN.out, HM2.out, HPV.out]
            simp [strLt, hs]
          | true =>
            have hge : ∀ W : World, (binOp .geq 9 (.string pn) (.string x.f0)).run Try.prog W = .ok (.bool false) W := fun W => by simp [binOp, Op.stringOp, hs]
            go_wp2
            refine wp_region_ext (by kernel_rfl) (by kernel_rfl) ?_
            repeat (go_big_quiet_step (((first | (go_at_call 69; exact HNC _) | (go_at_call 45; exact HMC _)))))
            refine wpQuiet_nil ?_
            rintro _ ⟨y, rfl⟩
            go_wp2
            go_roundw
            case rel => exact ⟨k' + 1 + 1, by omega, by go_num, ⟨by rw [HZ.out, HM.out, HN.out, HM2.out, HPV.out]; simp [strLt, hs]⟩, ⟨below_then HW.out HW.out.size y.h⟩⟩
            case measure => simp [intOf]; omega
    · have hkk : k = ks.length := by omega
      have hz : mayKids none ks = true := by rw [HZ.out, hkk, List.drop_length]; simp [mayKids]
      have HZ2 := Aside0.mk hz
      clear hz hkk
      cases ex with
      | true =>
        go_wp2
        go_ret
        refine ⟨ret_bool ?_, HBw.out⟩
        simp [mayP]
      | false =>
        cases hd : dt.toList with
        | nil =>
          go_wp2
          go_ret
          refine ⟨ret_bool ?_, HBw.out⟩
          simp [mayP, HZ2.out, ← tl_eq, hd]
        | cons a b =>
          go_wp2
          go_ret
          refine ⟨ret_bool ?_, HBw.out⟩
          simp [mayP, HZ2.out, ← tl_eq, hd]
theorem refMay_any (t : Tree) (h : Fit t) : MayAt t := by
  induction h with
  | mk t h0 h1 h3 h4 hk ih =>
    by_cases k1 : t.f1 = 1
    · exact refMay_file t k1
    · by_cases k2 : t.f1 = 2
      · exact refMay_dir t k2 ih (Fit.mk t h0 h1 h3 h4 hk)
      · by_cases k3 : t.f1 = 3
        · exact refMay_link t k3 (by omega)
        · exact refMay_other t k1 k2 k3
open Classical in
noncomputable def whiskref06_may.f (a0 : ByteArray) (a1 : Int) (a2 : Bool) (a3 : ByteArray) (l : List S24) : Option Bool := if Fit ⟨a0, a1, a2, a3, l⟩ then some (mayP ⟨a0, a1, a2, a3, l⟩) else none
theorem whiskref06_may.calls (a0_0 : ByteArray) (a0_1 : Int) (a0_2 : Bool) (a0_3 : ByteArray) (A0_4 : Option Addr) (c0_4 : Nat) (l0_4 : List S24) (r : Bool) (w : World) (hr0_4 : Kd.C k24 w A0_4 l0_4.length l0_4) (hc0_4 : l0_4.length ≤ c0_4) (h : whiskref06_may.f a0_0 a0_1 a0_2 a0_3 l0_4 = some r) :
    Calls Try.prog 45 #[.agg #[.string a0_0, .int .i64 a0_1, .bool a0_2, .string a0_3, .slice A0_4 l0_4.length c0_4]] w fun e w' => e = .returned (.bool r) ∧ Below w.heap.size w w' := by
  unfold whiskref06_may.f at h
  split at h
  · rename_i hf
    obtain rfl := Option.some.inj h
    exact refMay_any ⟨a0_0, a0_1, a0_2, a0_3, l0_4⟩ hf A0_4 c0_4 w hr0_4 hc0_4
  · cases h
end Go.Proofs.Ytnnpfahlfmeakaa.PB
namespace Go.Proofs.Ytnnpfahlfmeakaa.PB
open Go.RowKit Go.Proofs.Ytnnpfahlfmeakaa Go.Proofs.YtnnpfahlfmeakaaW.PrintWords Go.Proofs.YtnnpfahlfmeakaaW.PrintLast
set_option linter.unusedVariables false
set_option linter.unusedSimpArgs false
theorem refPutNum_loop (s : ByteArray) (n : Nat) (hn : n < 18446744073709551616) (hs : s.size ≤ 9223372036854775000) (d : Nat) : ∀ (j : Nat), nd n - j = d → j ≤ nd n → ∀ f, d < f →
    whiskref01_PutNum.l0 f s ((n / 128 ^ (j + 1) : Nat) : Int) (strOfNums (digs j n)) = some (s ++ encNum n) := by
  induction d with
  | zero =>
    intro j hd hj f hf
    obtain ⟨f, rfl⟩ : ∃ m, f = m + 1 := ⟨f - 1, by omega⟩
    obtain rfl : j = nd n := by omega
    have h9 := nd_le n hn
    simp only [whiskref01_PutNum.l0]
    rw [nd_zero, if_neg (by simp), if_pos (by rw [strOfNums_size, digs_length]; omega)]
    rfl
  | succ d ih =>
    intro j hd hj f hf
    obtain ⟨f, rfl⟩ : ∃ m, f = m + 1 := ⟨f - 1, by omega⟩
    have h9 := nd_le n hn
    have hp := nd_pos n j (by omega)
    have hlt : n / 128 ^ (j + 1) < 18446744073709551616 := Nat.lt_of_le_of_lt (Nat.div_le_self _ _) hn
    have hds := div_pow_succ n (j + 1)
    have hdg : digs (j + 1) n = (((n / 128 ^ (j + 1) % 128 + 128 : Nat) : Int)) :: digs j n := rfl
    have ih' := ih (j + 1) (by omega) (by omega) f (by omega)
    rw [hdg, ← hds] at ih'
    generalize n / 128 ^ (j + 1) = x at *
    simp only [whiskref01_PutNum.l0]
    rw [if_pos (by omega)]
    simp only [Option.bind_some]
    have e : ((((Int.tmod (x : Int) 128) % 256) + 128) % 256) = ((x % 128 + 128 : Nat) : Int) := by
      rw [Int.tmod_eq_emod_of_nonneg (by omega)]
      omega
    have e2 : IntKind.u64.wrap (Int.tdiv (x : Int) 128) = ((x / 128 : Nat) : Int) := by
      rw [Int.tdiv_eq_ediv_of_nonneg (by omega), IntKind.wrap_u64]
      omega
    rw [e, e2, ← strOfNums_append, if_pos (by rw [strOfNums_size, strOfNums_size, digs_length]; simp; omega)]
    exact ih'
theorem refPutNum_eq (s : ByteArray) (n : Nat) (hn : n < 18446744073709551616) (hs : s.size ≤ 9223372036854775000) : whiskref01_PutNum.f 11 s n = some (s ++ encNum n) := by
  have h9 := nd_le n hn
  have := refPutNum_loop s n hn hs (nd n) 0 (by omega) (by omega) 11 (by omega)
  unfold whiskref01_PutNum.f
  have e : ((Int.tmod (n : Int) 128) % 256) = ((n % 128 : Nat) : Int) := by rw [Int.tmod_eq_emod_of_nonneg (by omega)]; omega
  have e2 : IntKind.u64.wrap (Int.tdiv (n : Int) 128) = ((n / 128 ^ (0 + 1) : Nat) : Int) := by
    rw [Int.tdiv_eq_ediv_of_nonneg (by omega), IntKind.wrap_u64]; omega
  rw [e, e2]
  exact this
theorem refPutNum_calls (s : ByteArray) (n : Nat) (hn : n < 18446744073709551616) (hs : s.size ≤ 9223372036854775000) (w : World) :
    Calls Try.prog 47 #[.string s, .int .u64 n] w fun e w' => e = .returned (.string (s ++ encNum n)) ∧ Below w.heap.size w w' :=
  whiskref01_PutNum.calls 11 s n _ w (refPutNum_eq s n hn hs)
/-- A text's bytes behind others. -/
def putText (s t : ByteArray) : ByteArray := s ++ encNum t.size ++ t
set_option maxRecDepth 100000 in
theorem refPutText_calls (s t : ByteArray) (hs : s.size + t.size ≤ 9223372036854775000) (w : World) :
    Calls Try.prog 25 #[.string s, .string t] w fun e w' => e = .returned (.string (putText s t)) ∧ Below w.heap.size w w' := by
  have h9 := nd_le t.size (by omega)
  have HC := Aside0.mk (fun W => refPutNum_calls s t.size (by omega) (by omega) W)
  have hsz : (s ++ encNum t.size).size = s.size + (nd t.size + 1) := by rw [ByteArray.size_append, encNum_size]
  have hb : t.size < 18446744073709551616 := by omega
  have hbi : (t.size : Int) ≤ 9223372036854775807 := by omega
  have hsum : (s ++ encNum t.size).size + t.size ≤ 9223372036854775807 := by omega
  clear hs h9 hsz
  unfold putText
  generalize s ++ encNum t.size = q at HC hsum ⊢
  go_enter Try.func25, Try.ntmps25
  go_wp2_with (go_at_call 47; refine (HC.out _).mono ?_; rintro e w1 ⟨rfl, hr⟩; have HR := Aside0.mk hr; clear hr)
  go_ret
  exact ⟨rfl, HR.out⟩
open Classical in
noncomputable def whiskref01_PutText.f (a0 a1 : ByteArray) : Option ByteArray := if a0.size + a1.size ≤ 9223372036854775000 then some (putText a0 a1) else none
theorem whiskref01_PutText.calls (a0 : ByteArray) (a1 : ByteArray) (r : ByteArray) (w : World) (h : whiskref01_PutText.f a0 a1 = some r) :
    Calls Try.prog 25 #[.string a0, .string a1] w fun e w' => e = .returned (.string r) ∧ Below w.heap.size w w' := by
  unfold whiskref01_PutText.f at h
  split at h
  · obtain rfl := Option.some.inj h
    exact refPutText_calls a0 a1 (by assumption) w
  · cases h
end Go.Proofs.Ytnnpfahlfmeakaa.PB
namespace Go.Proofs.Ytnnpfahlfmeakaa.PB
open Go.RowKit Go.Proofs.Ytnnpfahlfmeakaa Go.Proofs.YtnnpfahlfmeakaaW.PrintWords Go.Proofs.YtnnpfahlfmeakaaW.PrintLast
set_option linter.unusedVariables false
set_option linter.unusedSimpArgs false
/-- How many bytes ahead are 128 at least. -/
def highs (l : List UInt8) : Nat := (l.takeWhile fun c => decide (128 ≤ c)).length
theorem highs_is (l : List UInt8) (k : Nat) (hk : k ≤ l.length) (h1 : ∀ j (h : j < l.length), j < k → 128 ≤ l[j]) (h2 : ∀ h : k < l.length, ¬ 128 ≤ l[k]) : k = highs l := by
  induction l generalizing k with
  | nil => simp at hk; simp [highs, hk]
  | cons c r ih =>
    cases k with
    | zero =>
      have := h2 (by simp)
      simp only [List.getElem_cons_zero] at this
      simp [highs, List.takeWhile_cons, this]
    | succ k =>
      have hc := h1 0 (by simp) (by omega)
      simp only [List.getElem_cons_zero] at hc
      have := ih k (by simpa using hk) (fun j hj hjk => by have := h1 (j + 1) (by simpa using hj) (by omega); simpa using this) (fun hlt => by have := h2 (by simpa using hlt); simpa using this)
      simp only [highs, List.takeWhile_cons, decide_eq_true hc, if_true, List.length_cons] at *
      omega
/-- A number read, as the document says. -/
def refNum (l : List UInt8) : Option (Nat × List UInt8) :=
  if highs l < l.length ∧ highs l ≤ 9 then
    if encNum (numVal (l.take (highs l + 1))) = str (l.take (highs l + 1)) then some (numVal (l.take (highs l + 1)), l.drop (highs l + 1)) else none
  else none
open Classical in
noncomputable def whiskref01_Reader_Num.f (s : ByteArray) (lost : Bool) : Option (Int × ByteArray × Bool) :=
  if s.size ≤ 4611686018427387904 then some (((numOf (refNum s.data.toList) : Nat) : Int), str (after lost (refNum s.data.toList)).1, (after lost (refNum s.data.toList)).2) else none
set_option maxRecDepth 100000 in
set_option maxHeartbeats 1000000 in
theorem whiskref01_Reader_Num.calls (g : Nat) (s0_0 : ByteArray) (s0_1 : Bool) (r1 : Int) (r2 : ByteArray) (r3 : Bool) (w0 w : World) (hI : IsS62 w0 w g s0_0 s0_1) (hB : Below w0.heap.size w0 w) (h : whiskref01_Reader_Num.f s0_0 s0_1 = some (r1, r2, r3)) :
    Calls Try.prog 55 #[.pointer (some ⟨g, 0, none⟩)] w fun e w' => e = .returned (.int .u64 r1) ∧ IsS62 w0 w' g r2 r3 ∧ Below w0.heap.size w0 w' ∧ KeepBut w w' g none := by
  unfold whiskref01_Reader_Num.f at h
  split at h
  case isFalse => cases h
  rename_i hsz
  simp only [Option.some.injEq, Prod.mk.injEq] at h
  obtain ⟨rfl, rfl, rfl⟩ := h
  have HI := Aside0.mk hI
  have HB := Aside0.mk hB
  have hcell : w.cell? ⟨g, 0, none⟩ = some (.string s0_0) := (blk_cell hI.1 0).trans rfl
  have hfz := blk_nofreeze hI.1 0
  have HS := Aside0.mk hsz
  have hs : (s0_0.size : Int) ≤ 4611686018427387904 := by omega
  have HLOSE := Aside0.mk (fun W (hi : IsS62 w0 W g s0_0 s0_1) (hb : Below w0.heap.size w0 W) => whiskref01_Reader_lose.calls g s0_0 s0_1 _ _ w0 W hi hb rfl)
  clear hI hB hsz
  go_enter Try.func55, Try.ntmps55
  go_wp2
  go_loop [3] (fun i => ∃ k : Nat, k ≤ s0_0.size ∧ i = .int .i64 k ∧ Aside0 (∀ j (h : j < s0_0.data.toList.length), j < k → 128 ≤ s0_0.data.toList[j])) (fun i => s0_0.size - (intOf i).toNat)
  case atStart => exact ⟨0, Nat.zero_le _, rfl, ⟨fun j h hj => by omega⟩⟩
  case round =>
    obtain ⟨k, hk, rfl, HK⟩ := hrel
    by_cases hlt : ∃ h : k < s0_0.size, 128 ≤ s0_0[k]
    · obtain ⟨hlt, h128⟩ := hlt
      have hb : (128 : Int) ≤ (s0_0[k].toNat : Int) := by
        have := UInt8.le_iff_toNat_le.1 h128
        have e : (128 : UInt8).toNat = 128 := rfl
        omega
      have HK2 : Aside0 (∀ j (h : j < s0_0.data.toList.length), j < k + 1 → 128 ≤ s0_0.data.toList[j]) := ⟨fun j h hj => by
        rcases Nat.lt_or_ge j k with h' | h'
        · exact HK.out j h h'
        · obtain rfl : j = k := by omega
          exact h128⟩
      clear h128
      go_wp2
      go_round
      case rel => exact ⟨k + 1, by omega, by go_num, HK2⟩
      case measure => simp [intOf]; omega
    · have hkk : k = highs s0_0.data.toList := highs_is _ k (by rw [data_length]; exact hk) HK.out (fun h h2 => hlt ⟨by rw [data_length] at h; exact h, h2⟩)
      have HKK := Aside0.mk hkk
      clear hkk
      by_cases hk1 : k < s0_0.size
      · have hb : ¬ (128 : Int) ≤ (s0_0[k].toNat : Int) := by
          intro h
          apply hlt
          refine ⟨hk1, UInt8.le_iff_toNat_le.2 ?_⟩
          show 128 ≤ s0_0[k].toNat
          omega
        clear hlt
        have hb' : (s0_0[k].toNat : Int) < 128 := by omega
        clear hb
        by_cases hk9 : k ≤ 9
        · have hsl := s0_0.data.toList.length
          have hn0 : Aside0 (refNum s0_0.data.toList = if encNum (numVal (s0_0.data.toList.take (k + 1))) = str (s0_0.data.toList.take (k + 1)) then some (numVal (s0_0.data.toList.take (k + 1)), s0_0.data.toList.drop (k + 1)) else none) := ⟨by
            unfold refNum
            rw [← HKK.out, if_pos ⟨by rw [data_length]; exact hk1, hk9⟩]⟩
          go_wp2
          go_loop [4, 5] (fun n i => ∃ j : Nat, j ≤ k + 1 ∧ i = .int .i64 j ∧ n = .int .u64 (numVal (s0_0.data.toList.take j) : Nat)) (fun _ i => k + 1 - (intOf i).toNat)
          case atStart => exact ⟨0, Nat.zero_le _, rfl, rfl⟩
          case round =>
            obtain ⟨j, hj, rfl, rfl⟩ := hrel
            by_cases hjk : j ≤ k
            · have hjs : j < s0_0.size := by omega
              have hv := numVal_lt (s0_0.data.toList.take j)
              have hc := s0_0[j].toNat_lt
              have hst : numVal (s0_0.data.toList.take (j + 1)) = (numVal (s0_0.data.toList.take j) * 128 + s0_0[j].toNat % 128) % 18446744073709551616 := by
                rw [List.take_succ_eq_append_getElem (by rw [data_length]; exact hjs), numVal_snoc]; rfl
              have HST := Aside0.mk hst
              clear hst
              generalize numVal (s0_0.data.toList.take j) = v at *
              go_wp2
              go_round
              case rel =>
                refine ⟨j + 1, by omega, by go_num, ?_⟩
                rw [HST.out]
                congr 1
                simp only [IntKind.wrap_u64]
                omega
              case measure => simp [intOf]; omega
            · have hjk' : j = k + 1 := by omega
              subst hjk'
              clear hjk hj
              have hv := numVal_lt (s0_0.data.toList.take (k + 1))
              have hst : str (s0_0.data.toList.take (k + 1)) = s0_0.extract 0 (k + 1) := by
                apply ByteArray.ext; apply Array.ext'; simp [str, ByteArray.data_extract]
              have hdr : str (s0_0.data.toList.drop (k + 1)) = s0_0.extract (k + 1) s0_0.size := by
                apply ByteArray.ext; apply Array.ext'
                rw [ByteArray.data_extract, Array.toList_extract]
                simp [str, List.extract]
                rw [List.take_of_length_le]
                rw [List.length_drop, data_length]; exact Nat.le_refl _
              rw [hst] at hn0
              generalize numVal (s0_0.data.toList.take (k + 1)) = v at *
              have HP := fun y : EW w => Calls.ext_of (refPutNum_calls ⟨#[]⟩ v hv (by simp [ByteArray.size]) y.v)
              rw [show (⟨#[]⟩ : ByteArray) ++ encNum v = encNum v from ByteArray.empty_append] at HP
              have HPA := Aside0.mk HP
              have HDR := Aside0.mk hdr
              have f0 := EW.cell hcell
              clear HP hst hdr
              by_cases heq : encNum v = s0_0.extract 0 (k + 1)
              · have hn1 := hn0.out
                rw [if_pos heq] at hn1
                have hbe : ((encNum v).toList == (s0_0.extract 0 (k + 1)).toList) = true := by rw [heq]; exact beq_self_eq_true _
                have HN1 := Aside0.mk hn1
                clear hn1 heq hn0
                go_wp2
                refine wp_region_ext (by kernel_rfl) (by kernel_rfl) ?_
                repeat (go_big_quiet_step ((go_at_call 47; exact HPA.out _)))
                refine wpQuiet_nil ?_
                rintro _ ⟨y, rfl⟩
                have f0y := f0 y
                have hfy := blk_nofreeze (HI.out.below y.h).1 0
                go_wp2
                go_ret
                rw [HN1.out]
                refine ⟨rfl, ⟨?_, HI.out.2⟩, (below_then HB.out HB.out.size y.h).setCell (p := ⟨g, 0, none⟩) HI.out.2 _, (KeepBut.of_below y.h g none).set_ 0 _⟩
                rw [show str (after s0_1 (some (v, List.drop (k + 1) s0_0.data.toList))).1 = s0_0.extract (k + 1) s0_0.size from HDR.out]
                exact blk_store (l := [.string s0_0, .bool s0_1]) (HI.out.below y.h).1 0 _
              · have hn1 := hn0.out
                rw [if_neg heq] at hn1
                have HN1 := Aside0.mk hn1
                have hbe : ((encNum v).toList == (s0_0.extract 0 (k + 1)).toList) = false := by
                  have : ¬ (encNum v).toList = (s0_0.extract 0 (k + 1)).toList := by
                    rw [ByteArray.toList_eq, ByteArray.toList_eq]; intro h; apply heq; apply ByteArray.ext; apply Array.ext'; exact h
                  exact beq_eq_false_iff_ne.2 this
                clear hn1 heq hn0
                go_wp2
                refine wp_region_ext (by kernel_rfl) (by kernel_rfl) ?_
                repeat (go_big_quiet_step ((go_at_call 47; exact HPA.out _)))
                refine wpQuiet_nil ?_
                rintro _ ⟨y, rfl⟩
                go_wp2_with (go_at_call 56; refine (HLOSE.out _ (HI.out.below y.h) (below_then HB.out HB.out.size y.h)).mono ?_; rintro e w2 ⟨rfl, hi, hb, hk⟩; have HI2 := Aside0.mk hi; have HB2 := Aside0.mk hb; have HK2 := Aside0.mk hk; clear hi hb hk)
                go_ret
                rw [HN1.out]
                exact ⟨rfl, HI2.out, HB2.out, (KeepBut.of_below y.h g none).trans HK2.out (.inl rfl)⟩
        · have hn0 : Aside0 (refNum s0_0.data.toList = none) := ⟨by
            unfold refNum
            rw [← HKK.out, if_neg (by rintro ⟨h1, h2⟩; exact hk9 h2)]⟩
          go_wp2_with (go_at_call 56; refine (HLOSE.out _ HI.out HB.out).mono ?_; rintro e w2 ⟨rfl, hi, hb, hk⟩; have HI2 := Aside0.mk hi; have HB2 := Aside0.mk hb; have HK2 := Aside0.mk hk; clear hi hb hk)
          go_ret
          rw [hn0.out]
          exact ⟨rfl, HI2.out, HB2.out, HK2.out⟩
      · have hn0 : Aside0 (refNum s0_0.data.toList = none) := ⟨by
          unfold refNum
          rw [← HKK.out, if_neg (by rintro ⟨h1, h2⟩; rw [data_length] at h1; exact hk1 h1)]⟩
        clear hlt
        have hkge : s0_0.size ≤ k := by omega
        go_wp2_with (go_at_call 56; refine (HLOSE.out _ HI.out HB.out).mono ?_; rintro e w2 ⟨rfl, hi, hb, hk⟩; have HI2 := Aside0.mk hi; have HB2 := Aside0.mk hb; have HK2 := Aside0.mk hk; clear hi hb hk)
        go_ret
        rw [hn0.out]
        exact ⟨rfl, HI2.out, HB2.out, HK2.out⟩
end Go.Proofs.Ytnnpfahlfmeakaa.PB
namespace Go.Proofs.Ytnnpfahlfmeakaa.PB
open Go.RowKit Go.Proofs.YtnnpfahlfmeakaaW.PrintWords Go.Proofs.YtnnpfahlfmeakaaW.PrintLast Go.Proofs.YtnnpfahlfmeakaaW.PrintMore
attribute [local go_sem] max2_int min2_int max_two min_two max_three min_three max_four min_four   -- for this text's walks alone
set_option linter.unusedVariables false
set_option linter.unusedSimpArgs false
noncomputable def whiskref01_Reader_Text.f (s0_0 : ByteArray) (s0_1 : Bool) : Option (ByteArray × ByteArray × Bool) := (whiskref01_Reader_Num.f s0_0 s0_1).bind fun bt132 => (if bt132.1 > (IntKind.u64.wrap ((bt132.2.1.size : Int))) then ((whiskref01_Reader_lose.f bt132.2.1 bt132.2.2).bind fun bt135 => (some ((⟨#[]⟩ : ByteArray), bt135.1, bt135.2))) else (if 0 ≤ bt132.1 then (if bt132.1 ≤ (bt132.2.1.size : Int) then (some (bt132.2.1.extract 0 (bt132.1 : Int).toNat, bt132.2.1.extract (bt132.1 : Int).toNat bt132.2.1.size, bt132.2.2)) else (none)) else (none)))
set_option maxHeartbeats 8000000 in
set_option maxRecDepth 100000 in
theorem whiskref01_Reader_Text.calls (g : Nat) (s0_0 : ByteArray) (s0_1 : Bool) (r1 : ByteArray) (r2 : ByteArray) (r3 : Bool) (w0 w : World) (hI : IsS62 w0 w g s0_0 s0_1) (hB : Below w0.heap.size w0 w) (h : whiskref01_Reader_Text.f s0_0 s0_1 = some (r1, r2, r3)) :
    Calls Try.prog 32 #[.pointer (some ⟨g, 0, none⟩)] w fun e w' => e = .returned (.string r1) ∧ IsS62 w0 w' g r2 r3 ∧ Below w0.heap.size w0 w' ∧ KeepBut w w' g none := by
  have HI0 := Aside0.mk hI
  have HK := Aside0.mk (KeepBut.refl w g none)
  have HL := Aside0.mk hB.size
  clear hI
  have HW0 := Aside0.mk hB.size
  have HB := Aside0.mk hB
  clear hB
  have H : ((whiskref01_Reader_Num.f s0_0 s0_1).bind fun bt132 => (if bt132.1 > (IntKind.u64.wrap ((bt132.2.1.size : Int))) then ((whiskref01_Reader_lose.f bt132.2.1 bt132.2.2).bind fun bt135 => (some ((⟨#[]⟩ : ByteArray), bt135.1, bt135.2))) else (if 0 ≤ bt132.1 then (if bt132.1 ≤ (bt132.2.1.size : Int) then (some (bt132.2.1.extract 0 (bt132.1 : Int).toNat, bt132.2.1.extract (bt132.1 : Int).toNat bt132.2.1.size, bt132.2.2)) else (none)) else (none)))) = some (r1, r2, r3) := h
  clear h
  replace H := Option.bind_eq_some_iff.mp H
  obtain ⟨⟨t132, t133, t134⟩, A20, H⟩ := H
  replace H : (if t132 > (IntKind.u64.wrap ((t133.size : Int))) then ((whiskref01_Reader_lose.f t133 t134).bind fun bt135 => (some ((⟨#[]⟩ : ByteArray), bt135.1, bt135.2))) else (if 0 ≤ t132 then (if t132 ≤ (t133.size : Int) then (some (t133.extract 0 (t132 : Int).toNat, t133.extract (t132 : Int).toNat t133.size, t134)) else (none)) else (none))) = some (r1, r2, r3) := H
  have A2 := Aside0.mk A20
  clear A20
  by_cases c3 : t132 > (IntKind.u64.wrap ((t133.size : Int)))
  · rw [if_pos c3] at H
    have c3b0 : decide ((IntKind.u64.wrap ((t133.size : Int))) < t132) = true := decide_eq_true c3
    clear c3
    replace H := Option.bind_eq_some_iff.mp H
    obtain ⟨⟨t135, t136⟩, A40, H⟩ := H
    replace H : (some ((⟨#[]⟩ : ByteArray), t135, t136)) = some (r1, r2, r3) := H
    have A4 := Aside0.mk A40
    clear A40
    simp only [Option.some.injEq, Prod.mk.injEq] at H
    obtain ⟨rfl, rfl, rfl⟩ := H
    go_enter Try.func32, Try.ntmps32
    go_wp2_with (first | ((with_reducible refine gate_callee (f := 55) rfl ?_); refine goesL_ (some 6) rfl rfl Try.func55 (by kernel_rfl) rfl #[.pointer (some ⟨g, 0, none⟩)] rfl (by (try simp only [List.map_toArray, List.map_cons, List.map_nil]); first | done | rfl | (simp only [List.length_drop, List.length_take]; rfl)) ?_; (with_reducible refine (whiskref01_Reader_Num.calls g s0_0 s0_1 t132 t133 t134 w0 _ ?side1 ?side2 A2.out).mono ?_); (case side1 => repeat (first | (with_reducible first | exact HI0.out | apply IsS62.alloc | apply IsS62.drewN | apply IsS62.drew | apply IsS62.set_0 | apply IsS62.set_1) | exact HI0.out)); (case side2 => repeat (first | (with_reducible first | exact HB.out | apply below_alloc | apply pw_below_drewN | apply below_drew1 | refine below_set ?_ (IsS62.ge HI0.out)) | exact HB.out)); rintro e w5 ⟨rfl, hi, hb, hk⟩; refine ⟨_, rfl, ?_⟩; have n0_ := Aside0.mk (KeepBut.trans (by repeat (first | (with_reducible first | exact HK.out | apply KeepBut.set_ | apply keep_drewN | apply keep_drew | apply keep_alloc) | exact HK.out)) hk (.inl rfl)); have n1_ := Aside0.mk (hb); have n2_ := Aside0.mk (hi); clear HK; clear HB; clear HI0; have HK := n0_; have HB := n1_; have HI0 := n2_; clear n0_ n1_ n2_; (try clear hb); (try clear hb2); (try clear hk); (try clear hi); obtain ⟨HGz6, hgz6⟩ := HI0.out; have hcz6_0 := cellS62_0 HGz6; have hcz6_1 := cellS62_1 HGz6; have hfz6_0 := blk_frozen HGz6 0; have hfz6_1 := blk_frozen HGz6 1; clear HGz6 hgz6) | ((with_reducible refine gate_callee (f := 56) rfl ?_); refine goesL_ (some 16) rfl rfl Try.func56 (by kernel_rfl) rfl #[.pointer (some ⟨g, 0, none⟩)] rfl (by (try simp only [List.map_toArray, List.map_cons, List.map_nil]); first | done | rfl | (simp only [List.length_drop, List.length_take]; rfl)) ?_; (with_reducible refine (whiskref01_Reader_lose.calls g t133 t134 t135 t136 w0 _ ?side1 ?side2 A4.out).mono ?_); (case side1 => repeat (first | (with_reducible first | exact HI0.out | apply IsS62.alloc | apply IsS62.drewN | apply IsS62.drew | apply IsS62.set_0 | apply IsS62.set_1) | exact HI0.out)); (case side2 => repeat (first | (with_reducible first | exact HB.out | apply below_alloc | apply pw_below_drewN | apply below_drew1 | refine below_set ?_ (IsS62.ge HI0.out)) | exact HB.out)); rintro e w7 ⟨rfl, hi, hb, hk⟩; refine ⟨_, rfl, ?_⟩; have n0_ := Aside0.mk (KeepBut.trans (by repeat (first | (with_reducible first | exact HK.out | apply KeepBut.set_ | apply keep_drewN | apply keep_drew | apply keep_alloc) | exact HK.out)) hk (.inl rfl)); have n1_ := Aside0.mk (hb); have n2_ := Aside0.mk (hi); clear HK; clear HB; clear HI0; have HK := n0_; have HB := n1_; have HI0 := n2_; clear n0_ n1_ n2_; (try clear hb); (try clear hb2); (try clear hk); (try clear hi)))
    go_ret
    exact ⟨by first | rfl | (simp [errW_none, errW_some] <;> rfl) | (simp [*, errW_none, errW_some] <;> rfl), by repeat (first | (with_reducible first | exact HI0.out | apply IsS62.alloc | apply IsS62.drewN | apply IsS62.drew | apply IsS62.set_0 | apply IsS62.set_1) | exact HI0.out), by repeat (first | (with_reducible first | exact HB.out | apply below_alloc | apply pw_below_drewN | apply below_drew1 | refine below_set ?_ (IsS62.ge HI0.out)) | exact HB.out), by repeat (first | (with_reducible first | exact HK.out | apply KeepBut.set_ | apply keep_drewN | apply keep_drew | apply keep_alloc) | exact HK.out)⟩
  · rw [if_neg c3] at H
    have c3b0 : decide ((IntKind.u64.wrap ((t133.size : Int))) < t132) = false := decide_eq_false c3
    clear c3
    by_cases c8 : 0 ≤ t132
    · rw [if_pos c8] at H
      have c8b0 := eq_true c8
      have c8b1 : decide (0 ≤ t132) = true := decide_eq_true c8
      clear c8
      by_cases c9 : t132 ≤ (t133.size : Int)
      · rw [if_pos c9] at H
        have c9b0 := eq_true c9
        have c9b1 : decide (t132 ≤ (t133.size : Int)) = true := decide_eq_true c9
        clear c9
        have c10b0 := eq_true (of_decide_eq_true (by first | (with_reducible assumption) | assumption) : 0 ≤ t132)
        have c11b0 := eq_true (of_decide_eq_true (by first | (with_reducible assumption) | assumption) : t132 ≤ (t133.size : Int))
        simp only [Option.some.injEq, Prod.mk.injEq] at H
        obtain ⟨rfl, rfl, rfl⟩ := H
        go_enter Try.func32, Try.ntmps32
        go_wp2_with (first | ((with_reducible refine gate_callee (f := 55) rfl ?_); refine goesL_ (some 6) rfl rfl Try.func55 (by kernel_rfl) rfl #[.pointer (some ⟨g, 0, none⟩)] rfl (by (try simp only [List.map_toArray, List.map_cons, List.map_nil]); first | done | rfl | (simp only [List.length_drop, List.length_take]; rfl)) ?_; (with_reducible refine (whiskref01_Reader_Num.calls g s0_0 s0_1 t132 t133 t134 w0 _ ?side1 ?side2 A2.out).mono ?_); (case side1 => repeat (first | (with_reducible first | exact HI0.out | apply IsS62.alloc | apply IsS62.drewN | apply IsS62.drew | apply IsS62.set_0 | apply IsS62.set_1) | exact HI0.out)); (case side2 => repeat (first | (with_reducible first | exact HB.out | apply below_alloc | apply pw_below_drewN | apply below_drew1 | refine below_set ?_ (IsS62.ge HI0.out)) | exact HB.out)); rintro e w12 ⟨rfl, hi, hb, hk⟩; refine ⟨_, rfl, ?_⟩; have n0_ := Aside0.mk (KeepBut.trans (by repeat (first | (with_reducible first | exact HK.out | apply KeepBut.set_ | apply keep_drewN | apply keep_drew | apply keep_alloc) | exact HK.out)) hk (.inl rfl)); have n1_ := Aside0.mk (hb); have n2_ := Aside0.mk (hi); clear HK; clear HB; clear HI0; have HK := n0_; have HB := n1_; have HI0 := n2_; clear n0_ n1_ n2_; (try clear hb); (try clear hb2); (try clear hk); (try clear hi); obtain ⟨HGz13, hgz13⟩ := HI0.out; have hcz13_0 := cellS62_0 HGz13; have hcz13_1 := cellS62_1 HGz13; have hfz13_0 := blk_frozen HGz13 0; have hfz13_1 := blk_frozen HGz13 1; clear HGz13 hgz13))
        go_ret
        exact ⟨by first | rfl | (simp [errW_none, errW_some] <;> rfl) | (simp [*, errW_none, errW_some] <;> rfl), by repeat (first | (with_reducible first | exact HI0.out | apply IsS62.alloc | apply IsS62.drewN | apply IsS62.drew | apply IsS62.set_0 | apply IsS62.set_1) | exact HI0.out), by repeat (first | (with_reducible first | exact HB.out | apply below_alloc | apply pw_below_drewN | apply below_drew1 | refine below_set ?_ (IsS62.ge HI0.out)) | exact HB.out), by repeat (first | (with_reducible first | exact HK.out | apply KeepBut.set_ | apply keep_drewN | apply keep_drew | apply keep_alloc) | exact HK.out)⟩
      · rw [if_neg c9] at H
        exact absurd H (by simp)
    · rw [if_neg c8] at H
      exact absurd H (by simp)
end Go.Proofs.Ytnnpfahlfmeakaa.PB

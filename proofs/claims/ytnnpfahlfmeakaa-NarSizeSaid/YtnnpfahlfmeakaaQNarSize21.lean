import Derived.Test.YtnnpfahlfmeakaaQNarSize7
import Derived.Test.YtnnpfahlfmeakaaQNarSize10
import Derived.Test.YtnnpfahlfmeakaaQNarSize20
namespace Go.Proofs.Ytnnpfahlfmeakaa.PB
open Go.RowKit Go.Proofs.Ytnnpfahlfmeakaa Go.Proofs.YtnnpfahlfmeakaaW.PrintWords Go.Proofs.YtnnpfahlfmeakaaW.PrintLast
set_option linter.unusedVariables false
set_option linter.unusedSimpArgs false
theorem ret_bool {a b : Bool} (h : a = b) : Ending.returned (.bool a) = .returned (.bool b) := by rw [h]
theorem bt_nat (s : ByteArray) (k : Nat) (h : k < s.size) : bt s (k : Int) = (s[k].toNat : Int) := by
  unfold bt
  rw [dif_pos (by simpa using h)]
  simp
theorem refName_loop (s : ByteArray) (hs : s.size ≤ 9223372036854775807) (d : Nat) : ∀ (k : Nat), k ≤ s.size → s.size - k = d → ∀ f, d < f →
    whiskref06_Name.l0 f s (k : Int) = some ((s.data.toList.drop k).all nmByte && decide (1 ≤ s.size) && decide (s.size ≤ 56) && !(s.data.toList == [46]) && !(s.data.toList == [46, 46])) := by
  induction d with
  | zero =>
    intro k hk hd f hf
    obtain ⟨f, rfl⟩ : ∃ m, f = m + 1 := ⟨f - 1, by omega⟩
    have e : s.data.toList.drop k = [] := List.drop_eq_nil_of_le (by rw [data_length]; omega)
    simp only [whiskref06_Name.l0]
    rw [if_neg (by omega), e, tl_eq]
    by_cases h1 : 1 ≤ s.size
    · rw [if_pos (by omega)]
      by_cases h2 : s.size ≤ 56
      · rw [if_pos (by omega)]
        by_cases h3 : s.data.toList = [46]
        · rw [if_pos h3]; simp [h1, h2, h3]
        · rw [if_neg h3]
          have e3 : (s.data.toList == [46]) = false := beq_eq_false_iff_ne.2 h3
          simp [h1, h2, e3, bne]
      · rw [if_neg (by omega)]; simp [h2]
    · rw [if_neg (by omega)]; simp [h1]
  | succ d ih =>
    intro k hk hd f hf
    obtain ⟨f, rfl⟩ : ∃ m, f = m + 1 := ⟨f - 1, by omega⟩
    have hlt : k < s.size := by omega
    simp only [whiskref06_Name.l0]
    rw [if_pos (by omega), if_pos (by omega), bt_nat s k hlt]
    have e : s.data.toList.drop k = s[k] :: s.data.toList.drop (k + 1) := by
      rw [List.drop_eq_getElem_cons (by rw [data_length]; exact hlt)]; rfl
    rw [e, List.all_cons]
    by_cases h1 : s[k] = 47
    · rw [if_pos (by rw [h1]; rfl)]
      have e5 : nmByte s[k] = false := by simp [nmByte, h1]
      rw [e5]; rfl
    · rw [if_neg (by intro h; apply h1; apply UInt8.toNat_inj.1; show s[k].toNat = 47; omega)]
      by_cases h2 : s[k] = 0
      · rw [if_pos (by rw [h2]; rfl)]
        have e5 : nmByte s[k] = false := by simp [nmByte, h2]
        rw [e5]; rfl
      · rw [if_neg (by intro h; apply h2; apply UInt8.toNat_inj.1; show s[k].toNat = 0; omega)]
        have hw : wrap64 ((k : Int) + 1) = ((k + 1 : Nat) : Int) := by unfold wrap64; omega
        rw [hw, ih (k + 1) (by omega) (by omega) f (by omega)]
        have e5 : nmByte s[k] = true := by simp [nmByte, h1, h2]
        rw [e5, Bool.true_and]
theorem refName_eq (s : ByteArray) (hs : s.size ≤ 9223372036854775807) : whiskref06_Name.f (s.size + 1) s = some (nameOk s) := by
  have := refName_loop s hs s.size 0 (Nat.zero_le _) rfl (s.size + 1) (by omega)
  exact this
theorem refName_calls (s : ByteArray) (hs : s.size ≤ 9223372036854775807) (w : World) : Calls Try.prog 69 #[.string s] w fun e w' => e = .returned (.bool (nameOk s)) ∧ Below w.heap.size w w' :=
  (whiskref06_Name.calls _ s _ w (refName_eq s hs)).mono fun e w' ⟨h1, h2⟩ => ⟨h1, h2.below⟩
def MayAt (t : Tree) : Prop := ∀ (A : Option Addr) (c : Nat) (w : World), Kd.C k24 w A t.f4.length t.f4 → t.f4.length ≤ c →
    Calls Try.prog 45 #[.agg #[.string t.f0, .int .i64 t.f1, .bool t.f2, .string t.f3, .slice A t.f4.length c]] w fun e w' => e = .returned (.bool (mayP t)) ∧ Below w.heap.size w w'
set_option maxRecDepth 100000 in
set_option maxHeartbeats 1000000 in
theorem refMay_file (t : Tree) (hk : t.f1 = 1) : MayAt t := by
  obtain ⟨nm, kd, ex, dt, ks⟩ := t
  obtain rfl : kd = 1 := hk
  intro A c w hr hc
  clear hr hc
  have hu24 := Try.underlying24
  go_enter Try.func45, Try.ntmps45
  go_wp2
  go_ret
  refine ⟨ret_bool ?_, (Below.refl _ _).alloc (Nat.le_refl _) _⟩
  cases ks <;> simp [mayP]; omega
set_option maxRecDepth 100000 in
set_option maxHeartbeats 1000000 in
theorem refMay_other (t : Tree) (h1 : t.f1 ≠ 1) (h2 : t.f1 ≠ 2) (h3 : t.f1 ≠ 3) : MayAt t := by
  obtain ⟨nm, kd, ex, dt, ks⟩ := t
  intro A c w hr hc
  clear hr hc
  have hu24 := Try.underlying24
  have b1 : (kd == 1) = false := beq_eq_false_iff_ne.mpr h1
  have b2 : (kd == 2) = false := beq_eq_false_iff_ne.mpr h2
  have b3 : (kd == 3) = false := beq_eq_false_iff_ne.mpr h3
  clear h1 h2 h3
  go_enter Try.func45, Try.ntmps45
  go_wp2
  go_ret
  refine ⟨ret_bool ?_, (Below.refl _ _).alloc (Nat.le_refl _) _⟩
  simp only [mayP, (beq_eq_false_iff_ne.mp b1), (beq_eq_false_iff_ne.mp b2), (beq_eq_false_iff_ne.mp b3), if_false]
theorem noZero_take (s : ByteArray) (k : Nat) (h : k < s.size) : (s.data.toList.take (k + 1)).all (fun c => c != 0) = ((s.data.toList.take k).all (fun c => c != 0) && (s[k] != 0)) := by
  rw [List.take_succ_eq_append_getElem (by simpa using h), List.all_append]
  simp
  rfl
set_option maxRecDepth 100000 in
set_option maxHeartbeats 1000000 in
theorem refMay_link (t : Tree) (hk : t.f1 = 3) (hsz : t.f3.size ≤ 9223372036854775807) : MayAt t := by
  obtain ⟨nm, kd, ex, dt, ks⟩ := t
  obtain rfl : kd = 3 := hk
  intro A c w hr hc
  clear hr hc
  have hu24 := Try.underlying24
  dsimp only at hsz ⊢
  go_enter Try.func45, Try.ntmps45
  go_wp2
  have BK := Aside0.mk (heap_alloc_new w (Obj.cells #[Value.string nm, .int .i64 3, Value.bool ex, Value.string dt, Value.slice A ks.length c] 24))
  have HB := Aside0.mk (below_alloc (Below.refl _ w) (Obj.cells #[Value.string nm, .int .i64 3, Value.bool ex, Value.string dt, Value.slice A ks.length c] 24))
  generalize (w.alloc (Obj.cells #[Value.string nm, .int .i64 3, Value.bool ex, Value.string dt, Value.slice A ks.length c] 24)) = W1 at BK HB ⊢
  have c2 : W1.cell? ⟨w.heap.size, 2, none⟩ = some (.bool ex) := (blk_cell BK.out 2).trans rfl
  have c3 : W1.cell? ⟨w.heap.size, 3, none⟩ = some (.string dt) := (blk_cell BK.out 3).trans rfl
  have c4 : W1.cell? ⟨w.heap.size, 4, none⟩ = some (.slice A ks.length c) := (blk_cell BK.out 4).trans rfl
  go_loop [3] (fun i => ∃ k : Nat, k ≤ dt.size ∧ i = .int .i64 k ∧ Aside0 ((dt.data.toList.take k).all (fun c => c != 0) = true)) (fun i => dt.size - (intOf i).toNat)
  case atStart => exact ⟨0, Nat.zero_le _, rfl, ⟨rfl⟩⟩
  case round =>
    obtain ⟨k, hk, rfl, HZ⟩ := hrel
    by_cases hlt : k < dt.size
    · have hz := noZero_take dt k hlt
      rw [HZ.out, Bool.true_and] at hz
      have HZ2 := Aside0.mk hz
      clear hz
      by_cases h0 : dt[k] = 0
      · have hb0 : ((dt[k].toNat : Int) == 0) = true := by rw [h0]; rfl
        go_wp2
        go_ret
        refine ⟨ret_bool ?_, HB.out⟩
        have : noZero dt = false := by
          unfold noZero
          rw [List.all_eq_false]
          exact ⟨dt[k], Array.getElem_mem_toList _, by simp [h0]⟩
        simp [mayP, this]
      · have hb0 : ((dt[k].toNat : Int) == 0) = false := by
          rw [beq_eq_false_iff_ne]; intro h; apply h0; apply UInt8.toNat_inj.1; simpa using h
        have HZ3 : Aside0 ((dt.data.toList.take (k + 1)).all (fun c => c != 0) = true) := ⟨by rw [HZ2.out]; simpa using h0⟩
        clear h0
        go_wp2
        go_round
        case rel => exact ⟨k + 1, by omega, by go_num, HZ3⟩
        case measure => simp [intOf]; omega
    · have hz : noZero dt = true := by
        unfold noZero
        have := HZ.out
        rwa [List.take_of_length_le (by simp; omega)] at this
      have HN := Aside0.mk hz
      clear hz
      cases ex with
      | true =>
        go_wp2
        go_ret
        refine ⟨ret_bool ?_, HB.out⟩
        simp [mayP]
      | false =>
        by_cases hks : ks.length = 0
        · have hks' : ((ks.length : Int) == 0) = true := by rw [hks]; rfl
          by_cases h1 : 1 ≤ dt.size
          · by_cases h2 : dt.size ≤ 255
            · go_wp2
              go_ret
              refine ⟨ret_bool ?_, HB.out⟩
              simp [mayP, HN.out, List.eq_nil_of_length_eq_zero hks, h1, h2] <;> omega
            · go_wp2
              go_ret
              refine ⟨ret_bool ?_, HB.out⟩
              simp [mayP, HN.out, List.eq_nil_of_length_eq_zero hks, h1, h2] <;> omega
          · go_wp2
            go_ret
            refine ⟨ret_bool ?_, HB.out⟩
            simp [mayP, HN.out, List.eq_nil_of_length_eq_zero hks, h1] <;> omega
        · have hks' : ((ks.length : Int) == 0) = false := by rw [beq_eq_false_iff_ne]; omega
          go_wp2
          go_ret
          refine ⟨ret_bool ?_, HB.out⟩
          cases ks with
          | nil => simp at hks
          | cons a b => simp [mayP]
/-- The name of the kid before number k. -/
def prevOf (ks : List Tree) (k : Nat) : Option ByteArray := if k = 0 then none else some (rd_T24 ks ((k : Int) - 1)).f0
theorem mayKids_drop (ks : List Tree) (k : Nat) (h : k < ks.length) : mayKids (prevOf ks k) (ks.drop k) = (nameOk (rd_T24 ks k).f0 && mayP (rd_T24 ks k) && (match prevOf ks k with | none => true | some q => strLt q (rd_T24 ks k).f0) && mayKids (prevOf ks (k + 1)) (ks.drop (k + 1))) := by
  have e : rd_T24 ks (k : Int) = ks[k] := by simp [rd_T24, List.getD_eq_getElem?_getD, List.getElem?_eq_getElem h]
  have e2 : prevOf ks (k + 1) = some ks[k].f0 := by simp [prevOf, ← e]
  rw [List.drop_eq_getElem_cons h, e2, e]
  simp only [mayKids]
  rfl
set_option maxRecDepth 100000 in
set_option maxHeartbeats 2000000 in
theorem refMay_dir (t : Tree) (hk : t.f1 = 2) (ih : ∀ k ∈ t.f4, MayAt k) (hfit : Fit t) : MayAt t := by
  have hln : t.f4.length ≤ 9223372036854775807 := by have := hfit.kids; omega
  have HFit := Aside0.mk hfit.kid
  clear hfit
  obtain ⟨nm, kd, ex, dt, ks⟩ := t
  obtain rfl : kd = 2 := hk
  intro A c w hr hc
  dsimp only at hr hc ih hln HFit ⊢
  have HI := Aside0.mk ih
  have HR := Aside0.mk hr
  have HC := Aside0.mk hc
  clear hr hc ih
  have hu24 := Try.underlying24
  go_enter Try.func45, Try.ntmps45
  go_wp2
  have BK := Aside0.mk (heap_alloc_new w (Obj.cells #[Value.string nm, .int .i64 2, Value.bool ex, Value.string dt, Value.slice A ks.length c] 24))
  have HB := Aside0.mk (below_alloc (Below.refl _ w) (Obj.cells #[Value.string nm, .int .i64 2, Value.bool ex, Value.string dt, Value.slice A ks.length c] 24))
  generalize (w.alloc (Obj.cells #[Value.string nm, .int .i64 2, Value.bool ex, Value.string dt, Value.slice A ks.length c] 24)) = W1 at BK HB ⊢
  go_loopw [4] (fun i wr => ∃ k : Nat, k ≤ ks.length ∧ i = .int .i64 k ∧ Aside0 (mayKids none ks = mayKids (prevOf ks k) (ks.drop k)) ∧ Aside0 (Below W1.heap.size W1 wr)) (fun i wr => ks.length - (intOf i).toNat)
  case atStart => exact ⟨0, Nat.zero_le _, rfl, ⟨rfl⟩, ⟨Below.refl _ _⟩⟩
  case round =>
    obtain ⟨k, hk, rfl, HZ, HW⟩ := hrel
    have BW := Aside0.mk (blk_below BK.out HW.out)
    have HBw := Aside0.mk (below_then HB.out HB.out.size HW.out)
    have HRw := Aside0.mk (Kd.C_below HR.out HBw.out)
    have c2 : wr.cell? ⟨w.heap.size, 2, none⟩ = some (.bool ex) := (blk_cell BW.out 2).trans rfl
    have c3 : wr.cell? ⟨w.heap.size, 3, none⟩ = some (.string dt) := (blk_cell BW.out 3).trans rfl
    have c4 : wr.cell? ⟨w.heap.size, 4, none⟩ = some (.slice A ks.length c) := (blk_cell BW.out 4).trans rfl
    by_cases hlt : k < ks.length
    · have hm := mayKids_drop ks k hlt
      have HM := Aside0.mk hm
      clear hm
      obtain ⟨ad, A4, c4', rfl, e0, e1, e2, e3, e4, l4, g4⟩ := at_T24 HRw.out (k : Int) (by omega) (by omega)
      have G4 := Aside0.mk g4
      have L4 := Aside0.mk l4
      clear g4 l4
      obtain ⟨x, hx⟩ : ∃ x, rd_T24 ks (k : Int) = x := ⟨_, rfl⟩
      have hmem : x ∈ ks := by rw [← hx]; simp [rd_T24, List.getD_eq_getElem?_getD, List.getElem?_eq_getElem hlt]
      have IH := Aside0.mk (HI.out x hmem)
      have HF := Aside0.mk (HFit.out x hmem)
      rw [hx] at e0 e1 e2 e3 e4 G4 L4 HM
      clear hx hmem
      rw [Int.toNat_natCast] at e0 e1 e2 e3 e4
      have f4 := EW.cell c4
      have q0 := EW.cell e0
      have q1 := EW.cell e1
      have q2 := EW.cell e2
      have q3 := EW.cell e3
      have q4 := EW.cell e4
      cases hn : nameOk x.f0 with
      | false =>
        have HN := Aside0.mk hn
        clear hn
        have HNC := fun y : EW wr => Calls.ext_of (HN.out ▸ refName_calls x.f0 (by have := (HF.out).name; omega) y.v)
        go_wp2
        refine wp_region_ext (by kernel_rfl) (by kernel_rfl) ?_
        repeat (go_big_quiet_step (((go_at_call 69; exact HNC _))))
        refine wpQuiet_nil ?_
        rintro _ ⟨y, rfl⟩
        go_wp2
        go_ret
        refine ⟨ret_bool ?_, below_then HBw.out HBw.out.size y.h⟩
        rw [show mayP ⟨nm, 2, ex, dt, ks⟩ = (!ex && dt.data.toList.isEmpty && mayKids none ks) by simp [mayP], HZ.out, HM.out, HN.out]
        simp
      | true =>
      cases hm : mayP x with
      | false =>
        have HN := Aside0.mk hn
        have HM2 := Aside0.mk hm
        clear hn hm
        have HNC := fun y : EW wr => Calls.ext_of (HN.out ▸ refName_calls x.f0 (by have := (HF.out).name; omega) y.v)
        have HMC := fun y : EW wr => Calls.ext_of (HM2.out ▸ IH.out A4 c4' y.v (Kd.C_below G4.out y.h) L4.out)
        go_wp2
        refine wp_region_ext (by kernel_rfl) (by kernel_rfl) ?_
        repeat (go_big_quiet_step (((first | (go_at_call 69; exact HNC _) | (go_at_call 45; exact HMC _)))))
        refine wpQuiet_nil ?_
        rintro _ ⟨y, rfl⟩
        go_wp2
        go_ret
        refine ⟨ret_bool ?_, below_then HBw.out HBw.out.size y.h⟩
        rw [show mayP ⟨nm, 2, ex, dt, ks⟩ = (!ex && dt.data.toList.isEmpty && mayKids none ks) by simp [mayP], HZ.out, HM.out, HN.out, HM2.out]
        simp
      | true =>
        have HN := Aside0.mk hn
        have HM2 := Aside0.mk hm
        clear hn hm
        have HNC := fun y : EW wr => Calls.ext_of (HN.out ▸ refName_calls x.f0 (by have := (HF.out).name; omega) y.v)
        have HMC := fun y : EW wr => Calls.ext_of (HM2.out ▸ IH.out A4 c4' y.v (Kd.C_below G4.out y.h) L4.out)
        by_cases h0 : k = 0
        · have hk0 : decide ((0 : Int) < (k : Int)) = false := by simp; omega
          have hk0' : decide (0 < k) = false := by simp; omega
          have hpv : prevOf ks k = none := by simp [prevOf, h0]
          have HPV := Aside0.mk hpv
          have hkl : (k : Int) ≤ 0 := by omega
          clear h0 hpv
          go_wp2
          refine wp_region_ext (by kernel_rfl) (by kernel_rfl) ?_
          repeat (go_big_quiet_step (((first | (go_at_call 69; exact HNC _) | (go_at_call 45; exact HMC _)))))
          refine wpQuiet_nil ?_
          rintro _ ⟨y, rfl⟩
          go_wp2
          go_roundw
          case rel => exact ⟨k + 1, by omega, by go_num, ⟨by rw [HZ.out, HM.out, HN.out, HM2.out, HPV.out]; simp⟩, ⟨below_then HW.out HW.out.size y.h⟩⟩
          case measure => simp [intOf]; omega
        · have hk1 : 1 ≤ k := by omega
          clear h0
          obtain ⟨ad', B4, c5', had, d0, d1, d2, d3, d4, l5, g5⟩ := at_T24 HRw.out ((k : Int) - 1) (by omega) (by omega)
          obtain rfl : ad = ad' := Option.some.inj had
          obtain ⟨k', rfl⟩ : ∃ m, k = m + 1 := ⟨k - 1, by omega⟩
          rw [show ((k' + 1 : Nat) : Int) - 1 = (k' : Int) by omega, Int.toNat_natCast] at d0
          have p0 := EW.cell d0
          have hk0 : decide (0 < k' + 1) = true := by simp
          have hk0' : decide ((0 : Int) < (k' : Int) + 1) = true := by simp
          have hpv : prevOf ks (k' + 1) = some (rd_T24 ks (k' : Int)).f0 := by unfold prevOf; rw [if_neg (by omega)]; congr 3; omega
          obtain ⟨pn, hpn⟩ : ∃ pn, (rd_T24 ks (k' : Int)).f0 = pn := ⟨_, rfl⟩
          rw [hpn] at d0 p0 hpv
          have HPV := Aside0.mk hpv
          clear hpv hpn d1 d2 d3 d4 l5 g5 had
          cases hs : Op.bytesLess pn.toList x.f0.toList with
          | false =>
            have hge : ∀ W : World, (binOp .geq 9 (.string pn) (.string x.f0)).run Try.prog W = .ok (.bool true) W := fun W => by simp [binOp, Op.stringOp, hs]
            go_wp2
            refine wp_region_ext (by kernel_rfl) (by kernel_rfl) ?_
            repeat (go_big_quiet_step (((first | (go_at_call 69; exact HNC _) | (go_at_call 45; exact HMC _)))))
            refine wpQuiet_nil ?_
            rintro _ ⟨y, rfl⟩
            go_wp2
            go_ret
            refine ⟨ret_bool ?_, below_then HBw.out HBw.out.size y.h⟩
            rw [show mayP ⟨nm, 2, ex, dt, ks⟩ = (!ex && dt.data.toList.isEmpty && mayKids none ks) by simp [mayP], HZ.out, HM.out, HN.out, HM2.out, HPV.out]
            simp [strLt, hs]
          | true =>
            have hge : ∀ W : World, (binOp .geq 9 (.string pn) (.string x.f0)).run Try.prog W = .ok (.bool false) W := fun W => by simp [binOp, Op.stringOp, hs]
            go_wp2
            refine wp_region_ext (by kernel_rfl) (by kernel_rfl) ?_
            repeat (go_big_quiet_step (((first | (go_at_call 69; exact HNC _) | (go_at_call 45; exact HMC _)))))
            refine wpQuiet_nil ?_
            rintro _ ⟨y, rfl⟩
            go_wp2
            go_roundw
            case rel => exact ⟨k' + 1 + 1, by omega, by go_num, ⟨by rw [HZ.out, HM.out, HN.out, HM2.out, HPV.out]; simp [strLt, hs]⟩, ⟨below_then HW.out HW.out.size y.h⟩⟩
            case measure => simp [intOf]; omega
    · have hkk : k = ks.length := by omega
      have hz : mayKids none ks = true := by rw [HZ.out, hkk, List.drop_length]; simp [mayKids]
      have HZ2 := Aside0.mk hz
      clear hz hkk
      cases ex with
      | true =>
        go_wp2
        go_ret
        refine ⟨ret_bool ?_, HBw.out⟩
        simp [mayP]
      | false =>
        cases hd : dt.toList with
        | nil =>
          go_wp2
          go_ret
          refine ⟨ret_bool ?_, HBw.out⟩
          simp [mayP, HZ2.out, ← tl_eq, hd]
        | cons a b =>
          go_wp2
          go_ret
          refine ⟨ret_bool ?_, HBw.out⟩
          simp [mayP, HZ2.out, ← tl_eq, hd]
theorem refMay_any (t : Tree) (h : Fit t) : MayAt t := by
  induction h with
  | mk t h0 h1 h3 h4 hk ih =>
    by_cases k1 : t.f1 = 1
    · exact refMay_file t k1
    · by_cases k2 : t.f1 = 2
      · exact refMay_dir t k2 ih (Fit.mk t h0 h1 h3 h4 hk)
      · by_cases k3 : t.f1 = 3
        · exact refMay_link t k3 (by omega)
        · exact refMay_other t k1 k2 k3
open Classical in
noncomputable def whiskref06_may.f (a0 : ByteArray) (a1 : Int) (a2 : Bool) (a3 : ByteArray) (l : List S24) : Option Bool := if Fit ⟨a0, a1, a2, a3, l⟩ then some (mayP ⟨a0, a1, a2, a3, l⟩) else none
theorem whiskref06_may.calls (a0_0 : ByteArray) (a0_1 : Int) (a0_2 : Bool) (a0_3 : ByteArray) (A0_4 : Option Addr) (c0_4 : Nat) (l0_4 : List S24) (r : Bool) (w : World) (hr0_4 : Kd.C k24 w A0_4 l0_4.length l0_4) (hc0_4 : l0_4.length ≤ c0_4) (h : whiskref06_may.f a0_0 a0_1 a0_2 a0_3 l0_4 = some r) :
    Calls Try.prog 45 #[.agg #[.string a0_0, .int .i64 a0_1, .bool a0_2, .string a0_3, .slice A0_4 l0_4.length c0_4]] w fun e w' => e = .returned (.bool r) ∧ Below w.heap.size w w' := by
  unfold whiskref06_may.f at h
  split at h
  · rename_i hf
    obtain rfl := Option.some.inj h
    exact refMay_any ⟨a0_0, a0_1, a0_2, a0_3, l0_4⟩ hf A0_4 c0_4 w hr0_4 hc0_4
  · cases h
end Go.Proofs.Ytnnpfahlfmeakaa.PB

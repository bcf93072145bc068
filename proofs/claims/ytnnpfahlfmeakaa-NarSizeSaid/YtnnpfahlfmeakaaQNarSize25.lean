import Derived.Test.YtnnpfahlfmeakaaQNarSize5
import Derived.Test.YtnnpfahlfmeakaaQNarSize10
import Derived.Test.YtnnpfahlfmeakaaQNarSize13
import Derived.Test.YtnnpfahlfmeakaaQNarSize20
namespace Go.Proofs.Ytnnpfahlfmeakaa
open Go.RowKit Go.Proofs.Ytnnpfahlfmeakaa.PB Go.Proofs.YtnnpfahlfmeakaaW.PrintWords Go.Proofs.YtnnpfahlfmeakaaW.PrintLast
set_option linter.unusedVariables false
set_option linter.unusedSimpArgs false
theorem ret_bool {a b : Bool} (h : a = b) : Ending.returned (.bool a) = .returned (.bool b) := by rw [h]
theorem cell_new_one (w : World) (v : Value) (t : Nat) : (w.alloc (.cells #[v] t)).cell? ⟨w.heap.size, 0, none⟩ = some v := by rw [World.cell?_alloc_at _ _ _ _ rfl]; rfl
theorem run_convert_nil_bytes (W : World) : (convert 37 9 (.slice none 0 0)).run Try.prog W = .ok (.string ⟨#[]⟩) W := run_convert_bytes_nil W 37 5 Try.underlying37 Try.underlying5 0 0 9 Try.underlying9
theorem ret_i64 {k : IntKind} {a b : Int} (h : a = b) : Ending.returned (.int k a) = .returned (.int k b) := by rw [h]
theorem row_loop (l : List UInt8) (hl : l.length ≤ 9223372036854775807) (d : Nat) : ∀ (k : Nat), k ≤ l.length → l.length - k = d → ∀ f, 3 * d < f →
    wire_row.l0 f (ints l) (ints l) (l.length : Int) (k : Int) = some (rowFrom (l.headD 0).toNat k (l.drop k) : Nat) := by
  induction d with
  | zero =>
    intro k hk hd f hf
    obtain ⟨f, rfl⟩ : ∃ m, f = m + 1 := ⟨f - 1, by omega⟩
    simp only [wire_row.l0]
    rw [if_neg (by omega), List.drop_eq_nil_of_le (by omega)]
    rfl
  | succ d ih =>
    intro k hk hd f hf
    obtain ⟨f, rfl⟩ : ∃ m, f = m + 3 := ⟨f - 3, by omega⟩
    have hlt : k < l.length := by omega
    have h0 : 0 < l.length := by omega
    have hh : (l.headD 0).toNat = l[0].toNat := by cases l with | nil => simp at h0 | cons a b => rfl
    have hb := l[k].toNat_lt
    have hw : wrap64 ((k : Int) + 1) = ((k + 1 : Nat) : Int) := by unfold wrap64; omega
    have e128 : (l[k] = 128) ↔ (l[k].toNat : Int) = 128 := by rw [← UInt8.toNat_inj]; show l[k].toNat = 128 ↔ _; omega
    have elt : (l[k] < 128) ↔ (l[k].toNat : Int) < 128 := by rw [UInt8.lt_iff_toNat_lt]; show l[k].toNat < 128 ↔ _; omega
    simp only [wire_row.l0]
    rw [if_pos (by omega), if_pos (by omega), if_pos (by rw [ints_length]; omega), rd_ints l k hlt, List.drop_eq_getElem_cons hlt]
    simp only [rowFrom]
    have step : ∀ x, x = decide (k = 10) → k ≠ 0 ∨ l[k] ≠ 128 → ¬ (k = 9 ∧ 129 < (l.headD 0).toNat) → wire_row.j2 (f + 1) (ints l) (k : Int) (l[k].toNat : Int) (ints l) (l.length : Int) (k : Int) x = some ((if k = 0 ∧ l[k] = 128 then 0 else if k = 9 ∧ 129 < (l.headD 0).toNat then 0 else if k = 10 then 0 else if l[k] < 128 then k + 1 else rowFrom (l.headD 0).toNat (k + 1) (l.drop (k + 1)) : Nat) : Int) := by
      intro x hx h1 h2
      have hn0 : ¬ (k = 0 ∧ l[k] = 128) := by rintro ⟨a, b⟩; rcases h1 with h | h <;> exact h (by assumption)
      rw [if_neg hn0, if_neg h2]
      simp only [wire_row.j2, hx]
      by_cases h10 : k = 10
      · rw [if_pos h10, if_pos (by simp [h10])]; rfl
      · rw [if_neg h10, if_neg (by simp [h10])]
        by_cases hc : l[k] < 128
        · rw [if_pos hc, if_pos (elt.1 hc), hw]
        · rw [if_neg hc, if_neg (fun h => hc (elt.2 h)), hw]
          exact ih (k + 1) (by omega) (by omega) f (by omega)
    have j1F : (k ≠ 0 ∨ l[k] ≠ 128) → wire_row.j1 (f + 2) (ints l) (k : Int) (l[k].toNat : Int) (ints l) (l.length : Int) (k : Int) false = some ((if k = 0 ∧ l[k] = 128 then 0 else if k = 9 ∧ 129 < (l.headD 0).toNat then 0 else if k = 10 then 0 else if l[k] < 128 then k + 1 else rowFrom (l.headD 0).toNat (k + 1) (l.drop (k + 1)) : Nat) : Int) := by
      intro h1
      simp only [wire_row.j1]
      rw [if_neg (by simp)]
      by_cases h9 : k = 9
      · rw [if_pos (by omega), if_pos (by rw [ints_length]; omega), show rd (ints l) 0 = (l[0].toNat : Int) from rd_ints l 0 h0]
        by_cases hg : 129 < (l.headD 0).toNat
        · rw [if_pos (by omega)]
          simp only [wire_row.j2]
          have hn0 : ¬ (k = 0 ∧ l[k] = 128) := by rintro ⟨a, b⟩; omega
          rw [if_neg hn0, if_pos (show k = 9 ∧ 129 < (l.headD 0).toNat from ⟨h9, hg⟩), if_pos (show decide ((l[0].toNat : Int) > 129) = true by simp; omega)]; rfl
        · rw [if_neg (by omega)]
          exact step _ (by simp [h9]) h1 (fun h => hg h.2)
      · rw [if_neg (by omega)]
        refine step _ ?_ h1 (fun h => h9 h.1)
        by_cases h10 : k = 10
        · simp [h10]
        · have : ((k : Int) == 10) = false := by rw [beq_eq_false_iff_ne]; omega
          simp [h10, this]
    by_cases hk0 : k = 0
    · rw [if_pos (by omega)]
      by_cases hc : l[k] = 128
      · have e1 : ((l[k].toNat : Int) == 128) = true := beq_iff_eq.2 (e128.1 hc)
        rw [e1]
        simp only [wire_row.j1, wire_row.j2, if_true]
        rw [if_pos ⟨hk0, hc⟩]; rfl
      · have e1 : ((l[k].toNat : Int) == 128) = false := beq_eq_false_iff_ne.2 (fun h => hc (e128.2 h))
        rw [e1]
        exact j1F (.inr hc)
    · rw [if_neg (by omega)]
      exact j1F (.inl hk0)
theorem row_eq (l : List UInt8) (hl : l.length ≤ 9223372036854775807) : wire_row.f (3 * l.length + 1) (ints l) = some (rowLen l : Nat) := by
  have := row_loop l hl l.length 0 (Nat.zero_le _) rfl (3 * l.length + 1) (by omega)
  rw [wire_row.f, ints_length]
  exact this
theorem reads_C {w : World} {A : Option Addr} {n : Nat} {xs : List Int} (h : ReadsInt w .u8 A n xs) : Kd.C (Kd.int .u8) w A n xs := Kd.C_of_reads (d := (0 : Int)) (h1 := fun _ => rfl) h
theorem row_calls (l : List UInt8) (hl : l.length ≤ 9223372036854775807) (A : Option Addr) (c : Nat) (w : World) (hr : ReadsInt w .u8 A l.length (ints l)) (hc : l.length ≤ c) :
    Calls Try.prog 70 #[.slice A l.length c] w fun e w' => e = .returned (.int .i64 (rowLen l : Nat)) ∧ Drawn0 w w' := by
  have := wire_row.calls (3 * l.length + 1) A c (ints l) _ w (by rw [ints_length]; exact reads_C hr) (by rw [ints_length]; exact hc) (row_eq l hl)
  rwa [ints_length] at this
/-- A reader in block b: what is left, and whether it is lost. -/
def RdAt (w : World) (b : Nat) (l : List UInt8) (lost : Bool) : Prop :=
  ∃ A c, w.heap[b]? = some (.cells #[.slice A l.length c, .bool lost] 74 (0, 0)) ∧ (l.length ≤ c ∧ l.length ≤ 4611686018427387904) ∧ c ≤ 9223372036854775807 ∧ ReadsInt w .u8 A l.length (ints l) ∧ (∀ ad, A = some ad → ad.block < b ∧ ad.block < w.heap.size)
theorem RdAt.lt {w : World} {b : Nat} {l : List UInt8} {lost : Bool} (h : RdAt w b l lost) : b < w.heap.size := by
  obtain ⟨A, c, h, _⟩ := h
  exact (Array.getElem?_eq_some_iff.1 h).1
theorem RdAt.below {w w' : World} {b : Nat} {l : List UInt8} {lost : Bool} (h : RdAt w b l lost) (hb : Below w.heap.size w w') : RdAt w' b l lost := by
  have hlt := h.lt
  obtain ⟨A, c, h1, h2, h3, h4, h5⟩ := h
  exact ⟨A, c, (hb.block b hlt).trans h1, h2, h3, h4.below hb, fun ad e => ⟨(h5 ad e).1, Nat.lt_of_lt_of_le (h5 ad e).2 hb.size⟩⟩
/-- What of memory may turn beside a reader. -/
theorem RdAt.keep {w w' : World} {b : Nat} {l : List UInt8} {lost : Bool} (h : RdAt w b l lost) (hs : w.heap.size ≤ w'.heap.size) (hb : ∀ i, i ≤ b → w'.heap[i]? = w.heap[i]?) : RdAt w' b l lost := by
  obtain ⟨A, c, h1, h2, h3, h4, h5⟩ := h
  refine ⟨A, c, (hb b (Nat.le_refl _)).trans h1, h2, h3, ⟨h4.1, h4.2.1, fun hn => ?_⟩, fun ad e => ⟨(h5 ad e).1, Nat.lt_of_lt_of_le (h5 ad e).2 hs⟩⟩
  obtain ⟨ad, e, hc⟩ := h4.2.2 hn
  refine ⟨ad, e, fun j hj => ?_⟩
  have hk : (ad.add j).block = ad.block := by unfold Addr.add; split <;> rfl
  have := hc j hj
  unfold World.cell? at this ⊢
  rw [hk, hb ad.block (Nat.le_of_lt (h5 ad e).1)]
  rwa [hk] at this
theorem RdAt.length {w : World} {b : Nat} {l : List UInt8} {lost : Bool} (h : RdAt w b l lost) : l.length ≤ 9223372036854775807 := by
  obtain ⟨A, c, h1, h2, h3, h4, h5⟩ := h
  omega
theorem grownBy_drewN (w : World) (n : Nat) (row : Option Nat) : w.grownBy (w.drewN n) row := ⟨rfl, rfl, rfl, Nat.le_refl _, fun _ _ _ => rfl⟩
theorem RdAt.drewN {w : World} {b : Nat} {l : List UInt8} {lost : Bool} (h : RdAt w b l lost) (n : Nat) : RdAt (w.drewN n) b l lost := h.below (pw_below_drewN (Below.refl _ _) n)
theorem reads_setCell {w : World} {b i : Nat} {u : Value} {A : Option Addr} {n : Nat} {xs : List Int} (hA : ∀ ad, A = some ad → ad.block ≠ b) (h : ReadsInt w .u8 A n xs) : ReadsInt (w.setCell ⟨b, i, none⟩ u) .u8 A n xs := by
  refine ⟨h.1, h.2.1, fun hn => ?_⟩
  obtain ⟨ad, e, hc⟩ := h.2.2 hn
  refine ⟨ad, e, fun j hj => ?_⟩
  rw [World.cell?_setCell_other]
  · exact hc j hj
  · intro e2
    have : ((ad.add j).block) = b := by rw [← e2]
    apply hA ad e
    rw [← this]; unfold Addr.add; split <;> rfl
theorem readsInt_drewN {w : World} {A : Option Addr} {n : Nat} {xs : List Int} (h : ReadsInt w .u8 A n xs) (m : Nat) : ReadsInt (w.drewN m) .u8 A n xs := h
theorem reads_nil (w : World) (A : Option Addr) : ReadsInt w .u8 A 0 [] := ⟨rfl, by omega, fun h => by omega⟩
theorem heap_set2 {w : World} {b T : Nat} {u v u' : Value} (h : w.heap[b]? = some (.cells #[u, v] T (0, 0))) : (w.setCell ⟨b, 0, none⟩ u').heap[b]? = some (.cells #[u', v] T (0, 0)) := blk_store (l := [u, v]) h 0 u'
theorem heap_set2' {w : World} {b T : Nat} {u v v' : Value} (h : w.heap[b]? = some (.cells #[u, v] T (0, 0))) : (w.setCell ⟨b, 1, none⟩ v').heap[b]? = some (.cells #[u, v'] T (0, 0)) := blk_store (l := [u, v]) h 1 v'
theorem RdAt.lose {w : World} {b : Nat} {l : List UInt8} {lost : Bool} (h : RdAt w b l lost) : RdAt ((w.setCell ⟨b, 0, none⟩ (.slice none 0 0)).setCell ⟨b, 1, none⟩ (.bool true)) b [] true := by
  obtain ⟨A, c, h1, h2, h3, h4, h5⟩ := h
  exact ⟨none, 0, heap_set2' (heap_set2 h1), ⟨Nat.le_refl _, by simp⟩, by omega, reads_nil _ _, fun ad e => by cases e⟩
theorem RdAt.cut {w : World} {b : Nat} {l : List UInt8} {lost : Bool} {A A1 : Option Addr} {c : Nat} {n : Nat} (h : RdAt (w.drewN n) b l lost) (hb : w.heap[b]? = some (.cells #[.slice A l.length c, .bool lost] 74 (0, 0))) (k : Nat) (hk : k ≤ l.length) (h62 : l.length ≤ 4611686018427387904)
    (hA1 : ReadsInt w .u8 A1 (l.length - k) ((ints l).drop k)) (hlc : l.length ≤ c) (hc : c ≤ 9223372036854775807) (hr : ReadsInt w .u8 A l.length (ints l)) (hA : ∀ ad, A = some ad → ad.block < b ∧ ad.block < w.heap.size)
    (hbk : ∀ ad1, A1 = some ad1 → ∃ ad, A = some ad ∧ ad1.block = ad.block) : RdAt ((w.drewN n).setCell ⟨b, 0, none⟩ (.slice A1 (l.length - k) (c - k))) b (l.drop k) lost := by
  have hl : (l.drop k).length = l.length - k := List.length_drop
  refine ⟨A1, c - k, ?_, by rw [hl]; omega, by omega, ?_, fun ad1 e => ?_⟩
  · rw [hl]; exact heap_set2 (w := w.drewN n) hb
  · rw [hl, show ints (l.drop k) = (ints l).drop k by simp [ints, List.map_drop]]
    refine reads_setCell (fun ad1 e => ?_) (readsInt_drewN hA1 n)
    obtain ⟨ad, e2, e3⟩ := hbk ad1 e
    rw [e3]; exact Nat.ne_of_lt (hA ad e2).1
  · obtain ⟨ad, e2, e3⟩ := hbk ad1 e
    rw [e3]
    exact ⟨(hA ad e2).1, by rw [World.size_setCell]; exact (hA ad e2).2⟩
theorem take_ints {w : World} {A : Option Addr} {l : List UInt8} (h : ReadsInt w .u8 A l.length (ints l)) (k : Nat) (hk : k ≤ l.length) : ReadsInt w .u8 A k (ints (l.take k)) := by
  have := h.take_ k hk
  rwa [show (ints l).take k = ints (l.take k) by simp [ints, List.map_take]] at this
theorem cut_from {P : Program} (t e : TypeId) (kl : IntKind) (ht : P.underlying t = some (.slice e)) (hs : (P.info? e).map (·.size) = some 1) (A : Option Addr) (n c m : Nat) (hm : m ≤ n) :
    ∃ A' : Option Addr, (∀ W : World, (Instr.slice t (.slice A n c) (some (.int kl (m : Int))) none none).run P W = .ok (.slice A' (n - m) (c - m)) W) ∧
      (∀ (w : World) (k : IntKind) (xs : List Int), n ≤ c → ReadsInt w k A n xs → ReadsInt w k A' (n - m) (xs.drop m)) ∧ (∀ ad1, A' = some ad1 → ∃ ad, A = some ad ∧ ad1.block = ad.block) := by
  refine ⟨if c = m then A else A.map (·.add m), fun W => ?_, fun w k xs hc h => h.drop_ m hm hc, fun ad1 h => ?_⟩
  · have hel : P.elem t = e := by simp [Program.elem, ht]
    have hu : P.underlying t = some (.slice (P.elem t)) := by rw [hel]; exact ht
    obtain ⟨i, hi, hsz⟩ := Option.map_eq_some_iff.1 hs
    rw [run_slice_l W t A n c hu kl (m : Int) (Int.natCast_nonneg _) (by omega), hel]
    simp [sizeOf, typeInfo, hi, hsz, sliced, Result.andThen]
  · split at h
    · exact ⟨ad1, h, rfl⟩
    · obtain ⟨ad, e1, rfl⟩ := Option.map_eq_some_iff.1 h
      exact ⟨ad, e1, by unfold Addr.add; split <;> rfl⟩
theorem cut_to {P : Program} (t e : TypeId) (kl : IntKind) (ht : P.underlying t = some (.slice e)) (hs : (P.info? e).map (·.size) = some 1) (A : Option Addr) (n c m : Nat) (hm : m ≤ c) :
    ∀ W : World, (Instr.slice t (.slice A n c) none (some (.int kl (m : Int))) none).run P W = .ok (.slice A m c) W := by
  intro W
  have hel : P.elem t = e := by simp [Program.elem, ht]
  have hu : P.underlying t = some (.slice (P.elem t)) := by rw [hel]; exact ht
  obtain ⟨i, hi, hsz⟩ := Option.map_eq_some_iff.1 hs
  rw [run_slice_h W t A n c hu kl (m : Int) (Int.natCast_nonneg _) (by omega), hel]
  simp [sizeOf, typeInfo, hi, hsz, sliced, Result.andThen]
  intro _
  cases A with
  | none => rfl
  | some a => simp [Addr.add]
theorem u8_size : (Try.prog.info? 5).map (·.size) = some 1 := by kernel_rfl
set_option maxRecDepth 100000 in
set_option maxHeartbeats 1000000 in
theorem take_row_lost (b : Nat) (l : List UInt8) (lost : Bool) (w : World) (h : RdAt w b l lost)  (hk : rowLen l = 0 ∨ l.length < rowLen l) :
    Calls Try.prog 49 #[.pointer (some ⟨b, 0, none⟩), .func (.func 70) #[] #[]] w fun e w' => e = .returned (.slice none 0 0) ∧ RdAt w' b [] true ∧ w.grownBy w' (some b) := by
  have HL := Aside0.mk h.length
  have HRD := Aside0.mk h
  obtain ⟨A, c, hb, ⟨hlc, hl62⟩, hc, hr, hA⟩ := h
  have hcell : w.cell? ⟨b, 0, none⟩ = some (.slice A l.length c) := (blk_cell hb 0).trans rfl
  have hcell1 : w.cell? ⟨b, 1, none⟩ = some (.bool lost) := (blk_cell hb 1).trans rfl
  have HKM := Aside0.mk (show ∀ k, rowLen l = k → k ≤ 9223372036854775807 by have := rowLen_le l; intro k hk; omega)
  have hrow := fun W hW => row_calls l HL.out A c W hW hlc
  have HR := Aside0.mk hr
  have hfz := blk_nofreeze hb 0
  have hfz1 := blk_nofreeze hb 1
  clear hr hb
  obtain ⟨k, hkk⟩ : ∃ k, rowLen l = k := ⟨_, rfl⟩
  rw [hkk] at hk hrow
  have hkm : k ≤ 9223372036854775807 := HKM.out k hkk
  clear hkk
  by_cases h0 : k = 0
  · have b0 : decide ((k : Int) ≤ 0) = true := by simp; omega
    have b1 : decide (k ≤ 0) = true := by simp; omega
    subst h0
    clear hk
    go_enter Try.func49, Try.ntmps49
    go_wp2_with (go_at_call 70; refine (hrow _ HR.out).mono ?_; rintro e w' ⟨rfl, hd⟩; obtain ⟨dn, rfl⟩ := hd.out; clear hd)
    go_ret
    exact ⟨rfl, (HRD.out.drewN dn).lose, ((grownBy_drewN _ _ _).trans (Lib.grownBy_setCell _ _ _ _)).trans (Lib.grownBy_setCell _ _ _ _)⟩
  · have hk0 : 0 < k := by omega
    have hk1 : l.length < k := by omega
    clear h0 hk
    have b0 : decide ((k : Int) ≤ 0) = false := by simp; omega
    have b1 : decide (k ≤ 0) = false := by simp; omega
    have b2 : decide ((l.length : Int) < (k : Int)) = true := by simp; omega
    have b3 : decide (l.length < k) = true := by simp; omega
    go_enter Try.func49, Try.ntmps49
    go_wp2_with (go_at_call 70; refine (hrow _ HR.out).mono ?_; rintro e w' ⟨rfl, hd⟩; obtain ⟨dn, rfl⟩ := hd.out; clear hd)
    go_ret
    exact ⟨rfl, (HRD.out.drewN dn).lose, ((grownBy_drewN _ _ _).trans (Lib.grownBy_setCell _ _ _ _)).trans (Lib.grownBy_setCell _ _ _ _)⟩
set_option maxRecDepth 100000 in
set_option maxHeartbeats 1000000 in
theorem take_row_some (b : Nat) (l : List UInt8) (lost : Bool) (w : World) (h : RdAt w b l lost)  (hk0 : 0 < rowLen l) (hk1 : rowLen l ≤ l.length) :
    Calls Try.prog 49 #[.pointer (some ⟨b, 0, none⟩), .func (.func 70) #[] #[]] w fun e w' => ∃ A c, e = .returned (.slice A (rowLen l) c) ∧ ReadsInt w' .u8 A (rowLen l) (ints (l.take (rowLen l))) ∧ rowLen l ≤ c ∧ RdAt w' b (l.drop (rowLen l)) lost ∧ w.grownBy w' (some b) := by
  have HL := Aside0.mk h.length
  have HRD := Aside0.mk h
  obtain ⟨A, c, hb, ⟨hlc, hl62⟩, hc, hr, hA⟩ := h
  have hcell : w.cell? ⟨b, 0, none⟩ = some (.slice A l.length c) := (blk_cell hb 0).trans rfl
  have hcell1 : w.cell? ⟨b, 1, none⟩ = some (.bool lost) := (blk_cell hb 1).trans rfl
  have HKM := Aside0.mk (show ∀ k, rowLen l = k → k ≤ 9223372036854775807 by have := rowLen_le l; intro k hk; omega)
  have hrow := fun W hW => row_calls l HL.out A c W hW hlc
  have HR := Aside0.mk hr
  have HBL := Aside0.mk hb
  have HA := Aside0.mk hA
  have hfz := blk_nofreeze hb 0
  have hfz1 := blk_nofreeze hb 1
  clear hr hb hA
  obtain ⟨k, hkk⟩ : ∃ k, rowLen l = k := ⟨_, rfl⟩
  rw [hkk] at hk0 hk1 hrow ⊢
  have hkm : k ≤ 9223372036854775807 := HKM.out k hkk
  clear hkk
  have b0 : decide ((k : Int) ≤ 0) = false := by simp; omega
  have b1 : decide (k ≤ 0) = false := by simp; omega
  have b2 : decide ((l.length : Int) < (k : Int)) = false := by simp; omega
  have b3 : decide (l.length < k) = false := by simp; omega
  obtain ⟨A1, hcut, hA1, hblk⟩ := cut_from 37 5 .i64 Try.underlying37 u8_size A l.length c k hk1
  have hcut0 := cut_to 37 5 .i64 Try.underlying37 u8_size A l.length c k (by omega)
  have HA1 := Aside0.mk hA1
  have HBK := Aside0.mk hblk
  clear hA1 hblk
  go_enter Try.func49, Try.ntmps49
  go_wp2_with (go_at_call 70; refine (hrow _ HR.out).mono ?_; rintro e w' ⟨rfl, hd⟩; obtain ⟨dn, rfl⟩ := hd.out; clear hd)
  go_ret
  refine ⟨A, c, rfl, ?_, by omega, RdAt.cut (RdAt.drewN HRD.out dn) HBL.out k hk1 hl62 (HA1.out _ _ _ hlc HR.out) hlc hc HR.out HA.out HBK.out, (grownBy_drewN _ _ _).trans (Lib.grownBy_setCell _ _ _ _)⟩
  exact reads_setCell (fun ad e => Nat.ne_of_lt (HA.out ad e).1) (readsInt_drewN (take_ints HR.out k hk1) dn)
set_option maxRecDepth 100000 in
theorem newReader_any (s : ByteArray) (hs : s.size ≤ 140737488351232) (w : World) :
    Calls Try.prog 27 #[.string s] w fun e w' => ∃ b, e = .returned (.pointer (some ⟨b, 0, none⟩)) ∧ w.heap.size ≤ b ∧ RdAt w' b s.data.toList false ∧ Below w.heap.size w w' := by
  have kb := fun W => print_bytes (P := Try.prog) 9 37 5 Try.underlying9 Try.underlying37 Try.underlying5 s W
  go_enter Try.func27, Try.ntmps27
  go_wp2
  go_ret
  have hr := bytes_reads w 5 s (by omega)
  refine ⟨(Lib.bytesWorld w 5 s).heap.size, rfl, by rw [Lib.bytesWorld_size]; omega, ⟨some ⟨w.heap.size, 0, none⟩, grownCap w s.size 0 5, ?_, ?_, ?_, ?_, ?_⟩, (bytes_below (Below.refl _ w) (Nat.le_refl _) 5 s).alloc (by rw [Lib.bytesWorld_size]; omega) _⟩
  · rw [heap_alloc_new, data_length]
  · rw [data_length]; exact ⟨grownCap_ge _ _ _ _, by omega⟩
  · have := grownCap_le_maxLen w s.size 0 5 (by unfold maxLen; omega); unfold maxLen at this; omega
  · rw [data_length]
    exact hr.below (below_alloc (Below.refl _ _) _)
  · intro ad e
    cases e
    rw [Lib.bytesWorld_size, World.size_alloc, Lib.bytesWorld_size]
    simp
    omega
theorem RdAt.length2 {w : World} {b : Nat} {l : List UInt8} {lost : Bool} (h : RdAt w b l lost) : l.length + 1 ≤ 9223372036854775807 := by
  obtain ⟨A, c, h1, h2, h3, h4, h5⟩ := h
  omega
set_option maxRecDepth 100000 in
set_option maxHeartbeats 1000000 in
theorem text1_any (q m : Nat) (hm : m < 18446744073709551616) (n c : Nat) (A : Option Addr) (w : World) (hn : n + 1 ≤ 9223372036854775807) (hq : w.cell? ⟨q, 0, none⟩ = some (.int .u64 m)) :
    Calls Try.prog 50 #[.slice A n c, .pointer (some ⟨q, 0, none⟩)] w fun e w' => e = .returned (.int .i64 ((min m (n + 1) : Nat) : Int)) ∧ w = w' := by
  go_enter Try.func50, Try.ntmps50
  go_wp2
  all_goals
    go_ret
    refine ⟨ret_i64 ?_, rfl⟩
    first | rfl | omega
set_option maxRecDepth 100000 in
set_option maxHeartbeats 1000000 in
theorem take_text_lost (b : Nat) (l : List UInt8) (lost : Bool) (w : World) (h : RdAt w b l lost) (q : Nat) (m : Nat) (hm : m < 18446744073709551616) (hq : w.cell? ⟨q, 0, none⟩ = some (.int .u64 m))  (hk : min m (l.length + 1) = 0 ∨ l.length < min m (l.length + 1)) :
    Calls Try.prog 49 #[.pointer (some ⟨b, 0, none⟩), .func (.func 50) #[] #[.pointer (some ⟨q, 0, none⟩)]] w fun e w' => e = .returned (.slice none 0 0) ∧ RdAt w' b [] true ∧ w.grownBy w' (some b) := by
  have HL := Aside0.mk h.length2
  have HRD := Aside0.mk h
  obtain ⟨A, c, hb, ⟨hlc, hl62⟩, hc, hr, hA⟩ := h
  have hcell : w.cell? ⟨b, 0, none⟩ = some (.slice A l.length c) := (blk_cell hb 0).trans rfl
  have hcell1 : w.cell? ⟨b, 1, none⟩ = some (.bool lost) := (blk_cell hb 1).trans rfl
  have HKM := Aside0.mk (show ∀ k, min m (l.length + 1) = k → k ≤ 9223372036854775807 by intro k hk; have := HL.out; omega)
  have hrow := text1_any q m hm l.length c A w HL.out hq
  clear hm hq
  have HR := Aside0.mk hr
  have hfz := blk_nofreeze hb 0
  have hfz1 := blk_nofreeze hb 1
  clear hr hb
  obtain ⟨k, hkk⟩ : ∃ k, min m (l.length + 1) = k := ⟨_, rfl⟩
  rw [hkk] at hk hrow
  have hkm : k ≤ 9223372036854775807 := HKM.out k hkk
  clear hkk
  by_cases h0 : k = 0
  · have b0 : decide ((k : Int) ≤ 0) = true := by simp; omega
    have b1 : decide (k ≤ 0) = true := by simp; omega
    subst h0
    clear hk
    go_enter Try.func49, Try.ntmps49
    go_wp2_with (go_at_call 50; refine hrow.mono ?_; rintro e w' ⟨rfl, rfl⟩)
    go_ret
    exact ⟨rfl, HRD.out.lose, (Lib.grownBy_setCell _ _ _ _).trans (Lib.grownBy_setCell _ _ _ _)⟩
  · have hk0 : 0 < k := by omega
    have hk1 : l.length < k := by omega
    clear h0 hk
    have b0 : decide ((k : Int) ≤ 0) = false := by simp; omega
    have b1 : decide (k ≤ 0) = false := by simp; omega
    have b2 : decide ((l.length : Int) < (k : Int)) = true := by simp; omega
    have b3 : decide (l.length < k) = true := by simp; omega
    go_enter Try.func49, Try.ntmps49
    go_wp2_with (go_at_call 50; refine hrow.mono ?_; rintro e w' ⟨rfl, rfl⟩)
    go_ret
    exact ⟨rfl, HRD.out.lose, (Lib.grownBy_setCell _ _ _ _).trans (Lib.grownBy_setCell _ _ _ _)⟩
set_option maxRecDepth 100000 in
set_option maxHeartbeats 1000000 in
theorem take_text_some (b : Nat) (l : List UInt8) (lost : Bool) (w : World) (h : RdAt w b l lost) (q : Nat) (m : Nat) (hm : m < 18446744073709551616) (hq : w.cell? ⟨q, 0, none⟩ = some (.int .u64 m))  (hk0 : 0 < min m (l.length + 1)) (hk1 : min m (l.length + 1) ≤ l.length) :
    Calls Try.prog 49 #[.pointer (some ⟨b, 0, none⟩), .func (.func 50) #[] #[.pointer (some ⟨q, 0, none⟩)]] w fun e w' => ∃ A c, e = .returned (.slice A (min m (l.length + 1)) c) ∧ ReadsInt w' .u8 A (min m (l.length + 1)) (ints (l.take (min m (l.length + 1)))) ∧ min m (l.length + 1) ≤ c ∧ RdAt w' b (l.drop (min m (l.length + 1))) lost ∧ w.grownBy w' (some b) := by
  have HL := Aside0.mk h.length2
  have HRD := Aside0.mk h
  obtain ⟨A, c, hb, ⟨hlc, hl62⟩, hc, hr, hA⟩ := h
  have hcell : w.cell? ⟨b, 0, none⟩ = some (.slice A l.length c) := (blk_cell hb 0).trans rfl
  have hcell1 : w.cell? ⟨b, 1, none⟩ = some (.bool lost) := (blk_cell hb 1).trans rfl
  have HKM := Aside0.mk (show ∀ k, min m (l.length + 1) = k → k ≤ 9223372036854775807 by intro k hk; have := HL.out; omega)
  have hrow := text1_any q m hm l.length c A w HL.out hq
  clear hm hq
  have HR := Aside0.mk hr
  have HBL := Aside0.mk hb
  have HA := Aside0.mk hA
  have hfz := blk_nofreeze hb 0
  have hfz1 := blk_nofreeze hb 1
  clear hr hb hA
  obtain ⟨k, hkk⟩ : ∃ k, min m (l.length + 1) = k := ⟨_, rfl⟩
  rw [hkk] at hk0 hk1 hrow ⊢
  have hkm : k ≤ 9223372036854775807 := HKM.out k hkk
  clear hkk
  have b0 : decide ((k : Int) ≤ 0) = false := by simp; omega
  have b1 : decide (k ≤ 0) = false := by simp; omega
  have b2 : decide ((l.length : Int) < (k : Int)) = false := by simp; omega
  have b3 : decide (l.length < k) = false := by simp; omega
  obtain ⟨A1, hcut, hA1, hblk⟩ := cut_from 37 5 .i64 Try.underlying37 u8_size A l.length c k hk1
  have hcut0 := cut_to 37 5 .i64 Try.underlying37 u8_size A l.length c k (by omega)
  have HA1 := Aside0.mk hA1
  have HBK := Aside0.mk hblk
  clear hA1 hblk
  go_enter Try.func49, Try.ntmps49
  go_wp2_with (go_at_call 50; refine hrow.mono ?_; rintro e w' ⟨rfl, rfl⟩)
  go_ret
  refine ⟨A, c, rfl, ?_, by omega, RdAt.cut (n := 0) (RdAt.drewN HRD.out 0) HBL.out k hk1 hl62 (HA1.out _ _ _ hlc HR.out) hlc hc HR.out HA.out HBK.out, Lib.grownBy_setCell _ _ _ _⟩
  exact reads_setCell (fun ad e => Nat.ne_of_lt (HA.out ad e).1) (take_ints HR.out k hk1)
set_option maxRecDepth 100000 in
set_option maxHeartbeats 1000000 in
theorem num_any (b : Nat) (l : List UInt8) (lost : Bool) (w : World) (h : RdAt w b l lost) :
    Calls Try.prog 48 #[.pointer (some ⟨b, 0, none⟩)] w fun e w' => e = .returned (.int .u64 (numOf (numR l) : Nat)) ∧ RdAt w' b (after lost (numR l)).1 (after lost (numR l)).2 ∧ w.grownBy w' (some b) := by
  have HL := Aside0.mk h.length
  have HRD := Aside0.mk h
  clear h
  by_cases h0 : rowLen l = 0
  · have HC := Aside0.mk (take_row_lost b l lost w HRD.out (.inl h0))
    have hn : numR l = none := by simp [numR, h0]
    rw [hn]
    clear h0 hn
    go_enter Try.func48, Try.ntmps48
    go_wp2_with (go_at_call 49; refine HC.out.mono ?_; rintro e w' ⟨rfl, hr, hg⟩; have HR := Aside0.mk hr; have HG := Aside0.mk hg; clear hr hg)
    refine wp_loop_rounds 1 ?_
    rw [rounds_succ]
    go_wp2
    go_ret
    exact ⟨rfl, HR.out, HG.out⟩
  · have hle := rowLen_le l
    have HC := Aside0.mk (take_row_some b l lost w HRD.out (by omega) hle)
    have hn : numR l = some (numVal (l.take (rowLen l)), l.drop (rowLen l)) := by simp [numR, h0]
    rw [hn]
    have hlen : (l.take (rowLen l)).length = rowLen l := by rw [List.length_take]; omega
    generalize l.take (rowLen l) = t at HC hlen ⊢
    rw [← hlen] at HC
    have hml : t.length ≤ 9223372036854775807 := by have := HL.out; omega
    rw [hlen] at HC
    generalize rowLen l = k at *
    subst hlen
    clear h0 hn hle
    go_enter Try.func48, Try.ntmps48
    go_wp2_with (go_at_call 49; refine HC.out.mono ?_; rintro e w' ⟨A, c, rfl, ha, hac, hr, hg⟩; have HA := Aside0.mk ha; have HR := Aside0.mk hr; have HG := Aside0.mk hg; clear ha hr hg)
    go_loop [2, 8] (fun n i => ∃ k : Nat, k ≤ t.length ∧ i = .int .i64 k ∧ n = .int .u64 (numVal (t.take k) : Nat)) (fun _ i => t.length - (intOf i).toNat)
    case atStart => exact ⟨0, Nat.zero_le _, rfl, rfl⟩
    case round =>
      obtain ⟨k, hk, rfl, rfl⟩ := hrel
      by_cases hlt : k < t.length
      · have hc := HA.out.at_ (k : Int) (by omega) (by omega)
        obtain ⟨ad, rfl, hc⟩ := hc
        rw [Int.toNat_natCast, rd_ints t k hlt] at hc
        have hb := t[k].toNat_lt
        have hv := numVal_lt (t.take k)
        have hs : numVal (t.take (k + 1)) = (numVal (t.take k) * 128 + t[k].toNat % 128) % 18446744073709551616 := by rw [List.take_succ_eq_append_getElem hlt, numVal_snoc]
        have HS := Aside0.mk hs
        clear hs
        generalize numVal (t.take k) = v at *
        generalize hx : t[k].toNat = x at *
        clear hx
        go_wp2
        go_round
        case rel => 
          refine ⟨k + 1, by omega, by go_num, ?_⟩
          rw [HS.out]
          congr 1
          simp only [IntKind.wrap_u64]
          omega
        case measure => simp [intOf]; omega
      · go_wp2
        go_ret
        refine ⟨ret_i64 ?_, HR.out, HG.out⟩
        rw [List.take_of_length_le (by omega)]; rfl
theorem string_of_reads (w : World) (A : Option Addr) (c : Nat) (t : List UInt8) (hr : ReadsInt w .u8 A t.length (ints t)) : (convert 37 9 (.slice A t.length c)).run Try.prog w = .ok (.string (str t)) w := by
  have := Kd.C_string (P := Try.prog) (w := w) (c := c) (src := 37) (dst := 9) Try.underlying37 Try.underlying5 Try.underlying9 (reads_C hr)
  rw [strOfNums_ints] at this
  exact this
set_option maxRecDepth 100000 in
set_option maxHeartbeats 1000000 in
theorem text_any (b : Nat) (l : List UInt8) (lost : Bool) (w : World) (h : RdAt w b l lost) :
    Calls Try.prog 29 #[.pointer (some ⟨b, 0, none⟩)] w fun e w' => e = .returned (.string (str (textOf (textR l)))) ∧ RdAt w' b (after lost (textR l)).1 (after lost (textR l)).2 ∧ w.grownBy w' (some b) := by
  have HRD := Aside0.mk h
  clear h
  have HN := Aside0.mk (num_any b l lost w HRD.out)
  cases hn : numR l with
  | none =>
    rw [hn] at HN
    simp only [numOf] at HN
    have ht : textR l = none := by simp [textR, hn]
    rw [ht]
    clear ht hn
    go_enter Try.func29, Try.ntmps29
    go_wp2_with (go_at_call 48; refine HN.out.mono ?_; rintro e w1 ⟨rfl, hr, hg⟩; have HR := Aside0.mk hr; have HG := Aside0.mk hg; clear hr hg)
    go_ret
    exact ⟨rfl, HR.out.below (below_alloc (Below.refl _ _) _), HG.out.trans (World.grownBy_alloc _ _ _)⟩
  | some nr =>
    obtain ⟨n, r⟩ := nr
    rw [hn] at HN
    simp only [numOf, after] at HN
    have hn64 : n < 18446744073709551616 := by
      unfold numR at hn
      split at hn
      · cases hn
      · injection hn with hn; injection hn with h1 h2; rw [← h1]; exact numVal_lt _
    by_cases h0 : n = 0
    · have ht : textR l = some ([], r) := by simp [textR, hn, h0]
      rw [ht]
      have hb : ((n : Int) == 0) = true := by simp [h0]
      clear ht hn h0
      go_enter Try.func29, Try.ntmps29
      go_wp2_with (go_at_call 48; refine HN.out.mono ?_; rintro e w1 ⟨rfl, hr, hg⟩; have HR := Aside0.mk hr; have HG := Aside0.mk hg; clear hr hg)
      go_ret
      exact ⟨rfl, HR.out.below (below_alloc (Below.refl _ _) _), HG.out.trans (World.grownBy_alloc _ _ _)⟩
    · have hb : ((n : Int) == 0) = false := by rw [beq_eq_false_iff_ne]; omega
      by_cases hle : n ≤ r.length
      · have ht : textR l = some (r.take n, r.drop n) := by simp [textR, hn, h0, hle]
        rw [ht]
        have hmin : min n (r.length + 1) = n := by omega
        have hpos : 0 < n := by omega
        have HMIN := Aside0.mk hmin
        have hl : (r.take n).length = n := by rw [List.length_take]; omega
        have HL := Aside0.mk hl
        clear ht hn h0 hmin hl
        go_enter Try.func29, Try.ntmps29
        go_wp2_with (go_at_call 48; refine HN.out.mono ?_; rintro e w1 ⟨rfl, hr, hg⟩; have HR := Aside0.mk hr; have HG := Aside0.mk hg; clear hr hg)
        have HT := Aside0.mk (take_text_some b r lost _ (HR.out.below (below_alloc (Below.refl _ w1) (.cells #[.int .u64 (n : Int)] 71))) w1.heap.size n hn64 (cell_new_one _ _ _) (by rw [HMIN.out]; exact hpos) (by rw [HMIN.out]; exact hle))
        rw [HMIN.out] at HT
        refine HT.out.mono ?_
        rintro e w2 ⟨A, c, rfl, ha, hac, hr, hg⟩
        have hcv := string_of_reads w2 A c (r.take n) (by rw [HL.out]; exact ha)
        rw [HL.out] at hcv
        have HR2 := Aside0.mk hr
        have HG2 := Aside0.mk hg
        clear hr hg ha
        go_wp2
        go_ret
        exact ⟨rfl, HR2.out, (HG.out.trans (World.grownBy_alloc _ _ _)).trans HG2.out⟩
      · have ht : textR l = none := by simp [textR, hn, h0, hle]
        rw [ht]
        have hmin : r.length < min n (r.length + 1) := by omega
        have HMIN := Aside0.mk hmin
        clear ht hn h0 hmin
        have hcn := fun W => run_convert_nil_bytes W
        go_enter Try.func29, Try.ntmps29
        go_wp2_with (go_at_call 48; refine HN.out.mono ?_; rintro e w1 ⟨rfl, hr, hg⟩; have HR := Aside0.mk hr; have HG := Aside0.mk hg; clear hr hg)
        have HT := Aside0.mk (take_text_lost b r lost _ (HR.out.below (below_alloc (Below.refl _ w1) (.cells #[.int .u64 (n : Int)] 71))) w1.heap.size n hn64 (cell_new_one _ _ _) (.inr HMIN.out))
        refine HT.out.mono ?_
        rintro e w2 ⟨rfl, hr, hg⟩
        have HR2 := Aside0.mk hr
        have HG2 := Aside0.mk hg
        clear hr hg
        go_wp2
        go_ret
        exact ⟨rfl, HR2.out, (HG.out.trans (World.grownBy_alloc _ _ _)).trans HG2.out⟩
set_option maxRecDepth 100000 in
theorem ok_any (b : Nat) (l : List UInt8) (lost : Bool) (w : World) (h : RdAt w b l lost) :
    Calls Try.prog 54 #[.pointer (some ⟨b, 0, none⟩)] w fun e w' => e = .returned (.bool (!lost)) ∧ w = w' := by
  obtain ⟨A, c, hb, _⟩ := h
  have hcell1 : w.cell? ⟨b, 1, none⟩ = some (.bool lost) := (blk_cell hb 1).trans rfl
  clear hb
  go_enter Try.func54, Try.ntmps54
  go_wp2
  go_ret
  exact ⟨rfl, rfl⟩
end Go.Proofs.Ytnnpfahlfmeakaa

import Derived.Laws.RangeAny
import Derived.Test.YtalljcjignaafaaDoorQTreeKnown8
import Derived.Test.YtalljcjignaafaaDoorQTreeKnown11
import Derived.Test.YtalljcjignaafaaDoorQTreeKnown12
namespace Go.Proofs.YtalljcjignaafaaDoor
open Go.RowKit Go.Lib Go.Proofs.YtalljcjignaafaaDoorW.PrintWords Go.Proofs.YtalljcjignaafaaDoorW.PrintLast
set_option linter.unusedVariables false
set_option linter.unusedSimpArgs false
theorem ret_boolN {a b : Bool} (h : a = b) : Ending.returned (.bool a) = .returned (.bool b) := by rw [h]
theorem encode_sizes (c : Nat) (hc : 128 ≤ c) (hv : Utf8.valid (c : Int) = true) : ∃ rs : ByteArray, Utf8.encode (c : Int) = rs ∧ 2 ≤ rs.size ∧ rs.size ≤ 4 ∧ ∀ (h : 1 < rs.size), rs.size = 2 → rs[1].toNat ≠ 0 := by
  have h128 : ¬ c < 128 := by omega
  unfold Utf8.encode
  simp only [hv, Int.toNat_natCast, ↓reduceIte, h128]
  by_cases h1 : c < 2048
  · simp only [h1, ↓reduceIte]
    refine ⟨_, rfl, by simp [ByteArray.size], by simp [ByteArray.size], fun h _ => ?_⟩
    show (UInt8.ofNat (128 + c % 64)).toNat ≠ 0
    rw [UInt8.toNat_ofNat']
    omega
  · simp only [h1, ↓reduceIte]
    by_cases h2 : c < 65536
    · simp only [h2, ↓reduceIte]
      exact ⟨_, rfl, by simp [ByteArray.size], by simp [ByteArray.size], fun _ h => by simp [ByteArray.size] at h⟩
    · simp only [h2, ↓reduceIte]
      exact ⟨_, rfl, by simp [ByteArray.size], by simp [ByteArray.size], fun _ h => by simp [ByteArray.size] at h⟩
theorem encode_high (r : Int) (h0 : 128 ≤ r) (hv : Utf8.valid r = true) : ∃ rs : ByteArray, Utf8.encode r = rs ∧ 2 ≤ rs.size ∧ rs.size ≤ 4 ∧ ∀ (h : 1 < rs.size), rs.size = 2 → rs[1].toNat ≠ 0 := by
  obtain ⟨c, rfl⟩ := Int.eq_ofNat_of_zero_le (show 0 ≤ r by omega)
  exact encode_sizes c (by omega) hv
set_option maxRecDepth 100000 in
set_option maxHeartbeats 2000000 in
theorem indexRune_error (w : World) :
    Calls Tryd.prog 75 #[.string ⟨#[47, 0]⟩, .int .i32 65533] w fun e w' => e = .returned (.int .i64 (-1)) ∧ Below w.heap.size w w' := by
  go_enter Tryd.func75, Tryd.ntmps75
  have n0 := fun ty => run_next_ascii (P := Tryd.prog) w ⟨#[47, 0]⟩ 0 ty (by decide) (by decide)
  have n1 := fun ty => run_next_ascii (P := Tryd.prog) w ⟨#[47, 0]⟩ 1 ty (by decide) (by decide)
  have n2 := run_next_end (P := Tryd.prog) w ⟨#[47, 0]⟩ 2
  go_wp2
  refine wp_loop_rounds 3 ?_
  rw [rounds_succ]
  go_wp2
  rw [rounds_succ]
  go_wp2
  rw [rounds_succ]
  go_wp2
  go_ret
  exact ⟨rfl, below_alloc (Below.refl _ w) _⟩
set_option maxRecDepth 100000 in
set_option maxHeartbeats 2000000 in
theorem indexRune_high (r : Int) (h0 : 128 ≤ r) (hv : Utf8.valid r = true) (hne : r ≠ 65533) (w : World) :
    Calls Tryd.prog 75 #[.string ⟨#[47, 0]⟩, .int .i32 r] w fun e w' => e = .returned (.int .i64 (-1)) ∧ Below w.heap.size w w' := by
  obtain ⟨rs, hrs, he2, he4, heb⟩ := encode_high r h0 hv
  have hb : (r == 65533) = false := beq_eq_false_iff_ne.2 hne
  have hvr : Lib.validRune r = true := by
    unfold Utf8.valid at hv
    unfold Lib.validRune
    simp at hv ⊢
    omega
  have b0 : decide ((0 : Int) ≤ r) = true := by simp; omega
  have b1 : decide (r < 128) = false := by simp; omega
  go_enter Tryd.func75, Tryd.ntmps75
  go_wp2_with (go_at_call 80; refine (Tryd.utf8_ValidRune _ _).mono ?_; rw [hvr]; rintro e w' ⟨rfl, rfl⟩)
  go_step3
  have hcv : ∀ W : World, (convert 21 9 (.int .i32 r)).run Tryd.prog W = .ok (.string rs) W := fun W => by rw [← hrs]; rfl
  clear hrs hv hvr
  go_wp2
  by_cases h2 : rs.size = 2
  · have h1s' : 1 < rs.size := by omega
    have hx := heb h1s' h2
    have hsz : (rs.size : Int) - 1 = 1 := by omega
    have h1s : (1 : Int) < (rs.size : Int) := by omega
    rw [hsz]
    clear hsz h2 heb
    obtain ⟨x, hx2⟩ : ∃ x, rs[1]'h1s' = x := ⟨_, rfl⟩
    rw [hx2] at hx
    have hxb : ((0 : Int) != (x.toNat : Int)) = true := by rw [bne_iff_ne]; omega
    have hxb3 : ((((⟨#[47, 0]⟩ : ByteArray)[1]'(by decide)).toNat : Int) != (x.toNat : Int)) = true := hxb
    have hxb2 : (decide ((x.toNat : Int) = 0)) = false := by simpa using hx
    have HI := fun (W : World) (y : EW W) => Calls.ext_of (((Tryd.strings_IndexByte ByteArray.empty (x.toNat : Int) y.v)).mono fun e w' ⟨h1, h2⟩ => ⟨h1, h2 ▸ Below.refl _ _⟩)
    have hib : Lib.indexByte ByteArray.empty.data.toList ((x.toNat : Int).toNat.toUInt8) = -1 := rfl
    rw [hib] at HI
    have HIA := Aside0.mk HI
    clear HI hib
    refine wp_loop_rounds 1 ?_
    rw [rounds_succ]
    go_wp2
    go_step3
    go_wp2
    refine wp_region_ext (by kernel_rfl) (by kernel_rfl) ?_
    repeat (go_big_quiet_step (fail))
    refine wpQuiet_nil ?_
    rintro _ ⟨y, rfl⟩
    go_wp2
    refine wp_region_ext (by kernel_rfl) (by kernel_rfl) ?_
    repeat (go_big_quiet_step ((go_at_call 44; exact HIA.out _ _)))
    refine wpQuiet_nil ?_
    rintro _ ⟨y2, rfl⟩
    go_wp2
    rw [Exit.noGoto_ret]
    go_wp2
    try rw [Exit.noGoto_ret]
    go_ret
    exact ⟨rfl, below_then y.h y.h.size y2.h⟩
  · have h3 : 3 ≤ rs.size := by omega
    refine wp_loop_rounds 1 ?_
    rw [rounds_succ]
    go_wp2
    rw [Exit.noGoto_ret]
    go_ret
    exact ⟨rfl, Below.refl _ _⟩
theorem valid_decode (s : ByteArray) (pos : Nat) (h : pos < s.size) (ha : 128 ≤ (s[pos]'h).toNat) : (Utf8.decode s pos).1 = 65533 ∨ (128 ≤ (Utf8.decode s pos).1 ∧ Utf8.valid ((Utf8.decode s pos).1 : Int) = true) := by
  have hn : ¬ (s[pos]'h).toNat < 128 := by omega
  simp only [Utf8.decode, get_at s pos h, hn, if_false]
  repeat' split
  all_goals simp_all [Utf8.runeError, Utf8.valid]
  all_goals omega
theorem skip_decode (s : ByteArray) (pos : Nat) (h : pos < s.size) (ha : 128 ≤ (s[pos]'h).toNat) : pos + (Utf8.decode s pos).2 ≤ s.size ∧ ∀ j (hj : j < s.size), pos ≤ j → j < pos + (Utf8.decode s pos).2 → 128 ≤ (s[j]'hj).toNat := by
  have hn : ¬ (s[pos]'h).toNat < 128 := by omega
  have hg : ∀ j (hj : j < s.size), s.get! j = s[j]'hj := fun j hj => by simpa using get_at s j hj
  have key : ∀ n, (∀ k, 1 ≤ k → k < n → pos + k < s.size ∧ 128 ≤ (s.get! (pos + k)).toNat) → 1 ≤ n → pos + n ≤ s.size ∧ ∀ j (hj : j < s.size), pos ≤ j → j < pos + n → 128 ≤ (s[j]'hj).toNat := by
    intro n hk hn1
    constructor
    · rcases Nat.lt_or_ge 1 n with h1 | h1
      · have := (hk (n - 1) (by omega) (by omega)).1; omega
      · omega
    · intro j hj h1 h2
      rcases Nat.lt_or_ge pos j with h3 | h3
      · have := (hk (j - pos) (by omega) (by omega)).2
        rw [show pos + (j - pos) = j by omega, hg j hj] at this
        exact this
      · obtain rfl : j = pos := by omega
        exact ha
  simp only [Utf8.decode, get_at s pos h, hn, if_false]
  (repeat' split) <;> rename_i hc <;> refine key _ ?_ (by simp) <;> intro k h1 h2
  all_goals try (exfalso; simp at h2; omega)
  all_goals simp at *
  all_goals (rcases (show k = 1 ∨ k = 2 ∨ k = 3 by omega) with rfl | rfl | rfl <;> first | omega | exact ⟨by omega, by omega⟩)
theorem indexRune_any (r : Int) (h : r = 65533 ∨ (128 ≤ r ∧ Utf8.valid r = true)) (w : World) :
    Calls Tryd.prog 75 #[.string ⟨#[47, 0]⟩, .int .i32 r] w fun e w' => e = .returned (.int .i64 (-1)) ∧ Below w.heap.size w w' := by
  by_cases h1 : r = 65533
  · subst h1; exact indexRune_error w
  · rcases h with h | ⟨h0, hv⟩
    · exact absurd h h1
    · exact indexRune_high r h0 hv h1 w
theorem run_next_at_end {P : Program} (W : World) (b : Nat) (s : ByteArray) (pos : Nat) (ty : TypeId) (h : W.heap[b]? = some (.stringIter s pos)) (hp : ¬ pos < s.size) :
    (Instr.next (.pointer (some ⟨b, 0, none⟩)) true ty).run P W = .ok (.tuple #[.bool false]) W := by
  simp [Instr.next, getObj, Sem.run, h, hp]
def putAt (W : World) (b : Nat) (o : Obj) : World := { W with heap := W.heap.setIfInBounds b o }
theorem run_next_at {P : Program} (W : World) (b : Nat) (s : ByteArray) (pos : Nat) (ty : TypeId) (h : W.heap[b]? = some (.stringIter s pos)) (hp : pos < s.size) :
    (Instr.next (.pointer (some ⟨b, 0, none⟩)) true ty).run P W = .ok (.tuple #[.bool true, .int .i64 pos, .int .i32 (Utf8.decode s pos).1]) (putAt W b (.stringIter s (pos + (Utf8.decode s pos).2))) := by
  simp only [Instr.next, getObj, setObj, Sem.run_bind, Sem.run, h, Result.andThen, hp, if_true]
  simp [goInt, putAt]
theorem putAt_at {W : World} {b : Nat} {o : Obj} (h : W.heap[b]? = some o) (o' : Obj) : (putAt W b o').heap[b]? = some o' := by
  have hlt := (Array.getElem?_eq_some_iff.1 h).1
  simp [putAt, Array.getElem?_setIfInBounds, hlt]
theorem putAt_below {w W : World} {b : Nat} (hb : w.heap.size ≤ b) (h : Below w.heap.size w W) (o : Obj) : Below w.heap.size w (putAt W b o) :=
  h.trans ⟨rfl, rfl, rfl, by simp [putAt], fun k hk => by simp only [putAt]; rw [Array.getElem?_setIfInBounds]; rw [if_neg (by omega)]⟩
def special (c : UInt8) : Bool := c == 47 || c == 0
theorem special_indexByte (c : UInt8) : decide ((0 : Int) ≤ Lib.indexByte (⟨#[47, 0]⟩ : ByteArray).data.toList c) = special c := by
  show decide ((0 : Int) ≤ Lib.indexByte [47, 0] c) = special c
  rw [← Lib.contains_iff_indexByte]
  simp [special]
  rfl
theorem any_take (l : List UInt8) (k : Nat) (h : k < l.length) (h1 : (l.take k).any special = false) (h2 : special l[k] = true) : l.any special = true := by
  rw [List.any_eq_true]; exact ⟨l[k], List.getElem_mem h, h2⟩
theorem any_extend (l : List UInt8) (k n : Nat) (hn : k + n ≤ l.length) (h1 : (l.take k).any special = false) (h2 : ∀ j (hj : j < l.length), k ≤ j → j < k + n → special l[j] = false) : (l.take (k + n)).any special = false := by
  rw [List.any_eq_false]
  intro c hc
  obtain ⟨j, hj, rfl⟩ := List.mem_iff_getElem.1 hc
  rw [List.length_take] at hj
  rw [List.getElem_take]
  rcases Nat.lt_or_ge j k with h | h
  · have := List.any_eq_false.1 h1 (l[j]'(by omega)) (by rw [List.mem_iff_getElem]; exact ⟨j, by rw [List.length_take]; omega, by rw [List.getElem_take]⟩)
    exact this
  · have := h2 j (by omega) h (by omega)
    simp [this]
theorem special_high (c : UInt8) (h : 128 ≤ c.toNat) : special c = false := by
  unfold special
  have h1 : c ≠ 47 := by rintro rfl; simp at h
  have h2 : c ≠ 0 := by rintro rfl; simp at h
  simp [h1, h2]
set_option maxRecDepth 100000 in
set_option maxHeartbeats 4000000 in
theorem indexAny_short (s : ByteArray) (h8 : s.size ≤ 8) (w : World) :
    Calls Tryd.prog 71 #[.string s, .string ⟨#[47, 0]⟩] w fun e w' => ∃ r : Int, e = .returned (.int .i64 r) ∧ decide (0 ≤ r) = s.data.toList.any special ∧ Below w.heap.size w w' := by
  have h8z : decide ((8 : Int) < (s.size : Int)) = false := decide_eq_false (by omega)
  have HU := Aside0.mk (fun W => Tryd.strings_shouldUseASCIISet (s.size : Int) W)
  rw [h8z] at HU
  have HRA := Aside0.mk (fun (r : Int) (W : World) (h0 : 0 ≤ r) (h1 : r < 128) => Tryd.strings_IndexRune_ascii ⟨#[47, 0]⟩ r W h0 h1)
  clear h8z
  go_enter Tryd.func71, Tryd.ntmps71
  go_wp2_with (go_at_call 76; refine (HU.out _).mono ?_; rintro e w' ⟨rfl, rfl⟩)
  have hB0 := Aside0.mk (below_alloc (Below.refl _ w') (.stringIter s 0))
  have hI0 := Aside0.mk (heap_alloc_new w' (.stringIter s 0))
  go_loopg [9, 10] s.size (fun g _ _ wx => ∃ pos : Nat, pos + g = s.size ∧ Aside0 (wx.heap[w'.heap.size]? = some (.stringIter s pos)) ∧ Aside0 ((s.data.toList.take pos).any special = false) ∧ Aside0 (Below w'.heap.size w' wx))
  case atStart => exact ⟨0, by omega, hI0, ⟨rfl⟩, hB0⟩
  case round =>
    obtain ⟨pos, hpg, HI, HN, HB⟩ := hrel
    cases gk with
    | zero =>
      obtain rfl : pos = s.size := by omega
      have hnx := fun ty => run_next_at_end (P := Tryd.prog) wr w'.heap.size s s.size ty HI.out (Nat.lt_irrefl _)
      go_wp2
      go_ret
      refine ⟨-1, rfl, ?_, HB.out⟩
      have := HN.out
      rw [List.take_of_length_le (by rw [data_length]; omega)] at this
      rw [this]; rfl
    | succ g =>
      have hp : pos < s.size := by omega
      have hnx := fun ty => run_next_at (P := Tryd.prog) wr w'.heap.size s pos ty HI.out hp
      by_cases hlo : s[pos].toNat < 128
      · have hdec : Utf8.decode s pos = (s[pos].toNat, 1) := by
          simp only [Utf8.decode, get_at s pos hp, hlo, if_true]
        rw [hdec] at hnx
        clear hdec
        have hW := Aside0.mk (putAt_below (Nat.le_refl _) HB.out (.stringIter s (pos + 1)))
        have hIt := Aside0.mk (putAt_at HI.out (.stringIter s (pos + 1)))
        generalize putAt wr w'.heap.size (.stringIter s (pos + 1)) = W1 at hnx hW hIt
        have hR := HRA.out (s[pos].toNat : Int) W1 (by omega) (by omega)
        have e1 : ((s[pos].toNat : Int)).toNat.toUInt8 = s[pos] := by simp
        rw [e1] at hR
        have HRW := Aside0.mk hR
        have hsp := special_indexByte s[pos]
        cases hs : special s[pos] with
        | true =>
          rw [hs] at hsp
          have hge : (0 : Int) ≤ Lib.indexByte (⟨#[47, 0]⟩ : ByteArray).data.toList s[pos] := of_decide_eq_true hsp
          have HS := Aside0.mk hs
          clear hsp hs hR e1
          generalize Lib.indexByte (⟨#[47, 0]⟩ : ByteArray).data.toList s[pos] = q at HRW hge
          go_wp2_with (go_at_call 75; refine HRW.out.mono ?_; rintro e w2 ⟨rfl, rfl⟩)
          go_ret
          refine ⟨(pos : Int), rfl, ?_, hW.out⟩
          rw [any_take s.data.toList pos (by rw [data_length]; exact hp) HN.out HS.out]
          simp
        | false =>
          rw [hs] at hsp
          have hlt : ¬ (0 : Int) ≤ Lib.indexByte (⟨#[47, 0]⟩ : ByteArray).data.toList s[pos] := of_decide_eq_false hsp
          have HS := Aside0.mk (any_extend s.data.toList pos 1 (by rw [data_length]; omega) HN.out (fun j hj h1 h2 => by obtain rfl : j = pos := (by omega); exact hs))
          clear hsp hs hR e1
          have hlt' : Lib.indexByte (⟨#[47, 0]⟩ : ByteArray).data.toList s[pos] < 0 := by omega
          clear hlt
          generalize Lib.indexByte (⟨#[47, 0]⟩ : ByteArray).data.toList s[pos] = q at HRW hlt'
          go_wp2_with (go_at_call 75; refine HRW.out.mono ?_; rintro e w2 ⟨rfl, rfl⟩)
          go_roundg g
          case measure => omega
          case rel => exact ⟨pos + 1, by omega, hIt, HS, hW⟩
      · have hhi : 128 ≤ s[pos].toNat := by omega
        have hv := valid_decode s pos hp hhi
        obtain ⟨hk1, hk2⟩ := skip_decode s pos hp hhi
        have hw1 := (decode_high s pos hp hhi).2
        clear hlo
        generalize (Utf8.decode s pos).1 = r at hnx hv
        generalize (Utf8.decode s pos).2 = n at hnx hk1 hk2 hw1
        have HS := Aside0.mk (any_extend s.data.toList pos n (by rw [data_length]; omega) HN.out (fun j hj h1 h2 => special_high _ (hk2 j (by rw [data_length] at hj; exact hj) h1 h2)))
        have hW := Aside0.mk (putAt_below (Nat.le_refl _) HB.out (.stringIter s (pos + n)))
        have hIt := Aside0.mk (putAt_at HI.out (.stringIter s (pos + n)))
        generalize putAt wr w'.heap.size (.stringIter s (pos + n)) = W1 at hnx hW hIt
        have HRW := Aside0.mk (indexRune_any (r : Int) (hv.elim (fun h => .inl (by omega)) (fun h => .inr ⟨by omega, h.2⟩)) W1)
        clear hv hk2 hhi
        go_wp2_with (go_at_call 75; refine HRW.out.mono ?_; rintro e w2 ⟨rfl, hb2⟩; have HB2 := Aside0.mk hb2; clear hb2)
        go_roundg (s.size - (pos + n))
        case measure => omega
        case rel => exact ⟨pos + n, by omega, ⟨(HB2.out.block _ (Array.getElem?_eq_some_iff.1 hIt.out).1).trans hIt.out⟩, HS, ⟨below_then hW.out hW.out.size HB2.out⟩⟩
theorem indexAny_contains (l : List UInt8) : decide ((0 : Int) ≤ Lib.indexAny l [47, 0]) = l.any special := by
  induction l with
  | nil => rfl
  | cons c r ih =>
    have h1 := Lib.contains_iff_indexByte [47, 0] c
    rw [List.any_cons, ← ih]
    have hge := Lib.indexAny_ge [47, 0] r
    have e : Lib.indexAny (c :: r) [47, 0] = if ([47, 0] : List UInt8).contains c = true then 0 else if (Lib.indexAny r [47, 0] == -1) = true then -1 else Lib.indexAny r [47, 0] + 1 := rfl
    have hsp : ([47, 0] : List UInt8).contains c = special c := by simp [special]; rfl
    rw [e, hsp]
    generalize Lib.indexAny r [47, 0] = q at *
    cases special c with
    | true => simp
    | false =>
      by_cases hq : q = -1
      · subst hq; rfl
      · have hb : (q == -1) = false := beq_eq_false_iff_ne.2 hq
        simp [hb]
        omega
theorem indexAny_calls (s : ByteArray) (hs : s.size < 4294967281) (w : World) :
    Calls Tryd.prog 71 #[.string s, .string ⟨#[47, 0]⟩] w fun e w' => ∃ r : Int, e = .returned (.int .i64 r) ∧ decide (0 ≤ r) = s.data.toList.any special ∧ Below w.heap.size w w' := by
  by_cases h8 : s.size ≤ 8
  · exact indexAny_short s h8 w
  · refine (Tryd.strings_IndexAny_long (fun W => by kernel_rfl) s ⟨#[47, 0]⟩ w (by decide) (by omega) hs (by decide) ?_).mono ?_
    · intro j b hb
      match j, hb with
      | 0, hb => cases hb; decide
      | 1, hb => cases hb; decide
      | j + 2, hb => simp at hb
    · rintro e w' ⟨rfl, rfl⟩
      exact ⟨_, rfl, indexAny_contains _, below_alloc (below_alloc (Below.refl _ w) _) _⟩
set_option maxRecDepth 100000 in
theorem containsAny_calls (s : ByteArray) (hs : s.size < 4294967281) (w : World) :
    Calls Tryd.prog 62 #[.string s, .string ⟨#[47, 0]⟩] w fun e w' => e = .returned (.bool (s.data.toList.any special)) ∧ Below w.heap.size w w' := by
  have HC := Aside0.mk (indexAny_calls s hs w)
  clear hs
  go_enter Tryd.func62, Tryd.ntmps62
  go_wp2_with (go_at_call 71; refine HC.out.mono ?_; rintro e w1 ⟨r, rfl, hr, hb⟩; have HR := Aside0.mk hr; have HB := Aside0.mk hb; clear hr hb)
  go_ret
  exact ⟨ret_boolN HR.out, HB.out⟩
theorem special_nm (l : List UInt8) : (!(l.any special)) = l.all nmByte := by
  induction l with
  | nil => rfl
  | cons c r ih =>
    rw [List.any_cons, List.all_cons, ← ih, Bool.not_or]
    congr 1
    simp [special, nmByte, bne]
set_option maxRecDepth 100000 in
set_option maxHeartbeats 1000000 in
theorem mayName_calls (s : ByteArray) (hs : s.size ≤ 140737488351232) (w : World) :
    Calls Tryd.prog 47 #[.string s] w fun e w' => e = .returned (.bool (nameOk s)) ∧ Below w.heap.size w w' := by
  by_cases h1 : 1 ≤ s.size
  · by_cases h56 : s.size ≤ 56
    · have HC := Aside0.mk (containsAny_calls s (by omega) w)
      have hsp := special_nm s.data.toList
      have h1' : (1 : Int) ≤ (s.size : Int) := by omega
      have h56' : (s.size : Int) ≤ 56 := by omega
      cases hb : s.data.toList.any special with
      | true =>
        rw [hb] at HC hsp
        have hn : nameOk s = false := by simp [nameOk, ← hsp]
        rw [hn]
        clear hb hsp hn
        go_enter Tryd.func47, Tryd.ntmps47
        go_wp2_with (go_at_call 62; refine HC.out.mono ?_; rintro e w1 ⟨rfl, hb⟩; have HB := Aside0.mk hb; clear hb)
        go_ret
        exact ⟨rfl, HB.out⟩
      | false =>
        rw [hb] at HC hsp
        have hn : nameOk s = (!(s.toList == [46]) && !(s.toList == [46, 46])) := by simp [nameOk, ← hsp, h1, h56, tl_eq]
        have HN := Aside0.mk hn
        clear hb hsp hn
        cases hd : (s.toList == [46]) with
        | true =>
          rw [hd] at HN
          go_enter Tryd.func47, Tryd.ntmps47
          go_wp2_with (go_at_call 62; refine HC.out.mono ?_; rintro e w1 ⟨rfl, hb⟩; have HB := Aside0.mk hb; clear hb)
          go_ret
          exact ⟨ret_boolN (by rw [HN.out]; rfl), HB.out⟩
        | false =>
          rw [hd] at HN
          go_enter Tryd.func47, Tryd.ntmps47
          go_wp2_with (go_at_call 62; refine HC.out.mono ?_; rintro e w1 ⟨rfl, hb⟩; have HB := Aside0.mk hb; clear hb)
          go_ret
          exact ⟨ret_boolN (by rw [HN.out]; rfl), HB.out⟩
    · have hn : nameOk s = false := by simp [nameOk, h56]
      rw [hn]
      clear hn
      go_enter Tryd.func47, Tryd.ntmps47
      go_wp2
      go_ret
      exact ⟨rfl, Below.refl _ _⟩
  · have hn : nameOk s = false := by simp [nameOk, h1]
    rw [hn]
    clear hn
    go_enter Tryd.func47, Tryd.ntmps47
    go_wp2
    go_ret
    exact ⟨rfl, Below.refl _ _⟩
end Go.Proofs.YtalljcjignaafaaDoor

import Derived.Test.YtnnpfahlfmeakaaQNarOne18
import Derived.Test.YtnnpfahlfmeakaaQNarOne22
import Derived.Test.YtnnpfahlfmeakaaQNarOne24
import Derived.Test.YtnnpfahlfmeakaaQNarOne29
import Derived.Test.YtnnpfahlfmeakaaQNarOne30
import Derived.Test.YtnnpfahlfmeakaaQNarOne31
namespace Go.Proofs.Ytnnpfahlfmeakaa
open Go.RowKit Go.Proofs.Ytnnpfahlfmeakaa.PB Go.Proofs.YtnnpfahlfmeakaaW.PrintWords Go.Proofs.YtnnpfahlfmeakaaW.PrintLast
set_option linter.unusedVariables false
set_option linter.unusedSimpArgs false
theorem enc_ok (t : Tree) (h : (encP t).2 = 0) : checkP t = 0 ∧ encP t = (magicB ++ nodeB t, 0) ∧ (magicB ++ nodeB t).size ≤ 60000 := by
  by_cases h0 : checkP t = 0
  · by_cases h1 : 60000 < (magicB ++ nodeB t).size
    · unfold encP at h; rw [if_pos h0, if_pos h1] at h; cases h
    · exact ⟨h0, by unfold encP; rw [if_pos h0, if_neg h1], by omega⟩
  · unfold encP at h; rw [if_neg h0] at h; exact absurd h h0
theorem ba_empty (s : ByteArray) (h : s.data.toList = []) : s = ⟨#[]⟩ := by
  obtain ⟨⟨d⟩⟩ := s
  simp at h; subst h; rfl
theorem unname_id (t : Tree) (h : t.f0.data.toList = []) : unname t = t := by
  cases t
  simp only [unname]
  rw [← ba_empty _ h]
theorem magic_text (l : List UInt8) : textR (bl magicB ++ l) = some ([119, 104, 105, 115, 107, 45, 116, 114, 101, 101], l) := textR_enc ⟨#[119, 104, 105, 115, 107, 45, 116, 114, 101, 101]⟩ (by decide) l
/-- Behind a tree's bytes stands what stood there. -/
theorem parse_enc (t : Tree) (hf : Fit t) (h : (encP t).2 = 0) (l : List UInt8) : (textR (bl (magicB ++ nodeB t) ++ l)).bind (fun p => nodeR 13 p.2) = some (t, l) := by
  obtain ⟨h0, h1, h2⟩ := enc_ok t h
  obtain ⟨b1, b2, b3, b4, b5⟩ := checkP_ok t h0
  rw [bl_append, List.append_assoc, magic_text]
  simp only [Option.bind_some]
  rw [nodeR_enc 13 t hf b3 (by omega) b4, unname_id t b2]
theorem magic_str : (str [119, 104, 105, 115, 107, 45, 116, 114, 101, 101]).toList = ([119, 104, 105, 115, 107, 45, 116, 114, 101, 101] : List UInt8) := by
  rw [tl_eq]; exact bl_str _
theorem decode_enc (t : Tree) (hf : Fit t) (h : (encP t).2 = 0) : decodeP (encP t).1 = some t := by
  obtain ⟨h0, h1, h2⟩ := enc_ok t h
  obtain ⟨b1, b2, b3, b4, b5⟩ := checkP_ok t h0
  have e : (encP t).1 = magicB ++ nodeB t := by rw [h1]
  unfold decodeP
  rw [e]
  have m := magic_text (bl (nodeB t))
  have n := nodeR_enc 13 t hf b3 (by omega) b4 []
  rw [List.append_nil, unname_id t b2] at n
  show (textR (bl (magicB ++ nodeB t))).bind _ = _
  rw [bl_append, m]
  simp only [Option.bind_some]
  rw [if_pos magic_str, n]
  simp only [Option.bind_some]
  rw [if_pos ⟨trivial, h, by rw [e]⟩]
/-- What is taken are a tree's bytes. -/
theorem decode_some (s : ByteArray) (hs : s.size ≤ 140737488351232) (t : Tree) (h : decodeP s = some t) : Fit t ∧ Sized t ∧ encP t = (s, 0) := by
  unfold decodeP at h
  obtain ⟨p, hp, h⟩ := Option.bind_eq_some_iff.1 h
  split at h
  · obtain ⟨q, hq, h⟩ := Option.bind_eq_some_iff.1 h
    split at h
    · rename_i h3
      injection h with h; subst h
      obtain ⟨f1, f2⟩ := parsed_fit s hs p q hp hq
      refine ⟨f1, f2, Prod.ext ?_ h3.2.1⟩
      have := h3.2.2
      rw [tl_eq, tl_eq] at this
      exact ByteArray.ext (Array.toList_inj.1 this)
    · cases h
  · cases h
theorem encNum_small (n : Nat) (h : n < 128) : encNum n = ⟨#[UInt8.ofNat n]⟩ := by
  have e : bl (encNum n) = [UInt8.ofNat n] := by
    rw [bl_encNum, show nd n = 0 by unfold nd; rw [if_pos h], bd_zero, Nat.mod_eq_of_lt h]
  rw [← str_bl (encNum n), e]; rfl
def xT : Tree := ⟨⟨#[]⟩, 1, false, ⟨#[120]⟩, []⟩
theorem xT_fit : Fit xT := Fit.mk _ (Nat.zero_le 140737488351232) (by show (-9223372036854775808 : Int) ≤ 1 ∧ (1 : Int) ≤ 9223372036854775807; decide) (by show (⟨#[120]⟩ : ByteArray).size ≤ 140737488351232; decide) (Nat.zero_le 1954687338212) (fun k hk => by cases hk)
theorem xT_sized : Sized xT := fun _ _ => by
  show sizeN ⟨⟨#[]⟩, 1, false, ⟨#[120]⟩, []⟩ + sizeB ⟨⟨#[]⟩, 1, false, ⟨#[120]⟩, []⟩ < 4611686018427387904
  simp only [sizeN, sizeB, sizeNs, sizeBs]
  have : (⟨#[120]⟩ : ByteArray).size = 1 := rfl
  omega
theorem magic_is : magicB = ⟨#[10, 119, 104, 105, 115, 107, 45, 116, 114, 101, 101]⟩ := by
  unfold magicB textB
  rw [show (⟨#[119, 104, 105, 115, 107, 45, 116, 114, 101, 101]⟩ : ByteArray).size = 10 from rfl, encNum_small 10 (by decide)]
  rfl
theorem xT_bytes : nodeB xT = ⟨#[1, 0, 1, 120]⟩ := by
  show nodeB ⟨⟨#[]⟩, 1, false, ⟨#[120]⟩, []⟩ = _
  simp only [nodeB, if_true, Int.reduceToNat, Bool.false_eq_true, if_false]
  rw [show (⟨#[120]⟩ : ByteArray).size = 1 from rfl, encNum_small 1 (by decide), encNum_small 0 (by decide)]
  rfl
theorem xT_check : checkP xT = 0 := by
  have h1 : depthP xT = 1 := by show depthP ⟨⟨#[]⟩, 1, false, ⟨#[120]⟩, []⟩ = 1; simp [depthP]
  have h2 : mayP xT = true := by show mayP ⟨⟨#[]⟩, 1, false, ⟨#[120]⟩, []⟩ = true; simp [mayP]
  have h3 : sizeN xT = 1 := by show sizeN ⟨⟨#[]⟩, 1, false, ⟨#[120]⟩, []⟩ = 1; simp [sizeN, sizeNs]
  have h4 : sizeB xT = 1 := by show sizeB ⟨⟨#[]⟩, 1, false, ⟨#[120]⟩, []⟩ = 1; simp [sizeB, sizeBs]; rfl
  unfold checkP
  rw [h1, h2, h3, h4, if_neg (by decide), if_pos ⟨rfl, rfl⟩, if_neg (by decide)]
theorem xT_enc : encP xT = (⟨#[10, 119, 104, 105, 115, 107, 45, 116, 114, 101, 101, 1, 0, 1, 120]⟩, 0) := by
  have e : magicB ++ nodeB xT = ⟨#[10, 119, 104, 105, 115, 107, 45, 116, 114, 101, 101, 1, 0, 1, 120]⟩ := by rw [magic_is, xT_bytes]; rfl
  unfold encP
  rw [if_pos xT_check, e, if_neg (by decide)]
theorem works_f : whisklaw09_works.f = some true := by
  unfold whisklaw09_works.f
  have a1 : nar_Encode.f (⟨#[]⟩ : ByteArray) 1 false (⟨#[120]⟩ : ByteArray) ([] : List Tree) = some (encP xT) := if_pos ⟨xT_fit, xT_sized⟩
  have a2 : whisklaw09_magic.f = some (⟨#[10, 119, 104, 105, 115, 107, 45, 116, 114, 101, 101]⟩ : ByteArray) := rfl
  have a3 := decode_f ⟨#[10, 119, 104, 105, 115, 107, 45, 116, 114, 101, 101, 1, 0, 1, 120]⟩ (by decide)
  have a4 := decode_enc xT xT_fit (by rw [xT_enc])
  rw [xT_enc] at a4
  have a5 : decodeR ⟨#[10, 119, 104, 105, 115, 107, 45, 116, 114, 101, 101, 1, 0, 1, 120]⟩ = (xT, 0) := by unfold decodeR; rw [a4]
  rw [a5] at a3
  rw [a1, a2, xT_enc]
  simp only [Option.bind_some]
  rw [if_pos (by decide), show (⟨#[10, 119, 104, 105, 115, 107, 45, 116, 114, 101, 101]⟩ : ByteArray) ++ ⟨#[1, 0, 1, 120]⟩ = ⟨#[10, 119, 104, 105, 115, 107, 45, 116, 114, 101, 101, 1, 0, 1, 120]⟩ from rfl, a3]
  simp only [Option.bind_some, if_true]
  rw [if_pos (by decide)]
  rw [if_pos (by show xT.f1 = 1; rfl), if_pos (by show xT.f3.toList = [120]; rw [tl_eq]; rfl)]
  rfl
end Go.Proofs.Ytnnpfahlfmeakaa
namespace Go.Proofs.Ytnnpfahlfmeakaa
open Go.RowKit Go.Proofs.Ytnnpfahlfmeakaa.PB Go.Proofs.YtnnpfahlfmeakaaW.PrintWords Go.Proofs.YtnnpfahlfmeakaaW.PrintLast
set_option linter.unusedVariables false
set_option linter.unusedSimpArgs false
theorem ba_eq {a b : ByteArray} (h : a.toList = b.toList) : a = b := by
  rw [tl_eq, tl_eq] at h
  exact ByteArray.ext (Array.toList_inj.1 h)
mutual
theorem sameP_to : ∀ (a b : Tree), sameP a b = true → a = b
  | ⟨n1, k1, e1, d1, l1⟩, b, h => by
    simp only [sameP, Bool.and_eq_true, beq_iff_eq] at h
    obtain ⟨⟨⟨⟨⟨_, h0⟩, h1⟩, h2⟩, h3⟩, h4⟩ := h
    have h5 := sameKs_to l1 b.f4 h4
    have h0' := ba_eq h0
    have h3' := ba_eq h3
    cases b
    simp only at h0' h1 h2 h3' h5
    subst h0' h1 h2 h3' h5
    rfl
theorem sameKs_to : ∀ (a b : List Tree), sameKs a b = true → a = b
  | [], l, h => by
    cases l with
    | nil => rfl
    | cons y s => cases h
  | x :: r, l, h => by
    cases l with
    | nil => cases h
    | cons y s =>
      simp only [sameKs, Bool.and_eq_true] at h
      rw [sameP_to x y h.1, sameKs_to r s h.2]
end
end Go.Proofs.Ytnnpfahlfmeakaa
namespace Go.Proofs.Ytnnpfahlfmeakaa
open Go.RowKit Go.Proofs.Ytnnpfahlfmeakaa.PB Go.Proofs.YtnnpfahlfmeakaaW.PrintWords Go.Proofs.YtnnpfahlfmeakaaW.PrintLast
set_option linter.unusedVariables false
theorem no_more (s r : ByteArray) (hr : r.size ≠ 0) (hs : s.size ≤ 140737488351232) (hsr : (s ++ r).size ≤ 140737488351232) (n t : Tree) (h : decodeP s = some n) (h2 : decodeP (s ++ r) = some t) : False := by
  obtain ⟨a1, a2, a3⟩ := decode_some s hs n h
  obtain ⟨b1, b2, b3⟩ := decode_some (s ++ r) hsr t h2
  obtain ⟨-, c2, -⟩ := enc_ok n (by rw [a3])
  obtain ⟨-, d2, -⟩ := enc_ok t (by rw [b3])
  have e1 : magicB ++ nodeB n = s := by rw [a3] at c2; exact (congrArg Prod.fst c2).symm
  have e2 : magicB ++ nodeB t = s ++ r := by rw [b3] at d2; exact (congrArg Prod.fst d2).symm
  have p1 := parse_enc n a1 (by rw [a3]) (bl r)
  have p2 := parse_enc t b1 (by rw [b3]) []
  rw [e1, ← bl_append] at p1
  rw [e2, List.append_nil, p1] at p2
  injection p2 with p2
  injection p2 with p2 p3
  exact hr (by rw [← bl_length, p3]; rfl)
theorem dec_none (s : ByteArray) (h : ∀ t, decodeP s ≠ some t) : decodeR s = (zeroT, 4) := by
  unfold decodeR
  cases hd : decodeP s with
  | none => rfl
  | some t => exact absurd hd (h t)
theorem cut_join (s : ByteArray) (j : Nat) (hj : j ≤ s.size) : s.extract 0 j ++ s.extract j s.size = s := by
  refine ByteArray.ext (Array.toList_inj.1 ?_)
  have e : s.data.toList.length = s.size := rfl
  simp [ByteArray.data_extract, List.take_of_length_le, e]
/-- No beginning of it is taken. -/
theorem pre_none (s : ByteArray) (hs : s.size ≤ 140737488351232) (n : Tree) (h : decodeP s = some n) (j : Nat) (hj : j < s.size) : decodeR (s.extract 0 j) = (zeroT, 4) := by
  refine dec_none _ (fun t ht => ?_)
  have e := cut_join s j (by omega)
  refine no_more (s.extract 0 j) (s.extract j s.size) (by rw [ByteArray.size_extract]; omega) (by rw [ByteArray.size_extract]; omega) (by rw [e]; exact hs) t n ht (by rw [e]; exact h)
theorem more_none (s r : ByteArray) (hr : r.size ≠ 0) (hs : (s ++ r).size ≤ 140737488351232) (n : Tree) (h : decodeP s = some n) : decodeR (s ++ r) = (zeroT, 4) := by
  refine dec_none _ (fun t ht => ?_)
  have : (s ++ r).size = s.size + r.size := ByteArray.size_append
  exact no_more s r hr (by omega) hs n t h ht
/-- Another text is another tree's. -/
theorem other_ne (s u : ByteArray) (hs : s.size ≤ 140737488351232) (hu : u.size ≤ 140737488351232) (n m : Tree) (h : decodeP s = some n) (h2 : decodeP u = some m) (hne : s ≠ u) : sameP n m = false := by
  cases hsm : sameP n m with
  | false => rfl
  | true =>
    have := sameP_to n m hsm
    subst this
    obtain ⟨-, -, a3⟩ := decode_some s hs n h
    obtain ⟨-, -, b3⟩ := decode_some u hu n h2
    rw [a3] at b3
    exact absurd (congrArg Prod.fst b3) hne
theorem dec_ne_nil (s : ByteArray) (hs : s.size ≤ 140737488351232) (n : Tree) (h : decodeP s = some n) : s.size ≠ 0 := by
  obtain ⟨a1, a2, a3⟩ := decode_some s hs n h
  obtain ⟨-, c2, -⟩ := enc_ok n (by rw [a3])
  have e1 : magicB ++ nodeB n = s := by rw [a3] at c2; exact (congrArg Prod.fst c2).symm
  rw [← e1, ByteArray.size_append, magic_is]
  have : (⟨#[10, 119, 104, 105, 115, 107, 45, 116, 114, 101, 101]⟩ : ByteArray).size = 11 := rfl
  omega
end Go.Proofs.Ytnnpfahlfmeakaa
namespace Go.Proofs.Ytnnpfahlfmeakaa.PB
open Go Go.RowKit Go.Proofs.Ytnnpfahlfmeakaa Go.Proofs.YtnnpfahlfmeakaaW.PrintWords Go.Proofs.YtnnpfahlfmeakaaW.PrintLast
set_option linter.unusedVariables false
set_option linter.unusedSimpArgs false
theorem works_calls (w : World) : Calls Try.prog 12 #[] w fun e w' => e = .returned (.bool true) ∧ Below w.heap.size w w' := whisklaw09_works.calls true w works_f
theorem decR_calls (s : ByteArray) (hs : s.size ≤ 140737488351232) (w : World) : Calls Try.prog 13 #[.string s] w fun e w' => ∃ v : Value, e = .returned (.tuple #[.agg #[.string (decodeR s).1.f0, .int .i64 (decodeR s).1.f1, .bool (decodeR s).1.f2, .string (decodeR s).1.f3, v], .int .i64 (decodeR s).2]) ∧ Kd.R k24 24 w' w.heap.size (fun _ => True) v (decodeR s).1.f4 ∧ Below w.heap.size w w' :=
  nar_Decode.calls s _ _ _ _ _ _ w (decode_f s hs)
theorem or_u8 (a c : Nat) (ha : a < 256) (hc : c < 256) : bits BinOp.or IntKind.u8 (a : Int) (c : Int) = ((a ||| c : Nat) : Int) :=
  (bits_nat .u8 8 (by decide) wraps_u8 a c ha hc).2
theorem xor_u8 (a c : Nat) (ha : a < 256) (hc : c < 256) : bits BinOp.xor IntKind.u8 (a : Int) (c : Int) = ((a ^^^ c : Nat) : Int) := by
  have ha' : a % 2 ^ IntKind.u8.bits = a := Nat.mod_eq_of_lt ha
  have hc' : c % 2 ^ IntKind.u8.bits = c := Nat.mod_eq_of_lt hc
  have cast : ∀ n : Nat, n < 2 ^ 8 → ((n : Nat) : Int) < 2 ^ 8 := fun n h => by exact_mod_cast h
  simp only [bits, BitVec.ofInt_natCast, BitVec.toNat_xor, BitVec.toNat_ofNat, ha', hc']
  exact wraps_u8 _ (Int.natCast_nonneg _) (cast _ (Nat.xor_lt_two_pow (n := 8) ha hc))
theorem flip_u8 (x : Nat) (b : Int) (hx : x < 256) (hb : 0 ≤ b ∧ b ≤ 255) : ∃ y : Nat, bits BinOp.xor IntKind.u8 (x : Int) (bits BinOp.or IntKind.u8 b 1) = (y : Int) ∧ y < 256 ∧ y ≠ x := by
  obtain ⟨c, rfl⟩ : ∃ c : Nat, b = (c : Int) := ⟨b.toNat, by omega⟩
  have hc : c < 256 := by omega
  have ho : c ||| 1 < 256 := Nat.or_lt_two_pow (n := 8) hc (by decide)
  refine ⟨x ^^^ (c ||| 1), ?_, Nat.xor_lt_two_pow (n := 8) hx ho, fun h => ?_⟩
  · rw [show (1 : Int) = ((1 : Nat) : Int) from rfl, or_u8 c 1 hc (by decide), xor_u8 x _ hx ho]
  · have h2 : x ^^^ (x ^^^ (c ||| 1)) = 0 := by rw [h, Nat.xor_self]
    rw [← Nat.xor_assoc, Nat.xor_self, Nat.zero_xor] at h2
    have := Nat.right_le_or (n := c) (m := 1)
    omega
theorem bytes_frozen (w : World) (e : TypeId) (s : ByteArray) (j : Nat) (hj : j < s.size) : (Lib.bytesWorld w e s).frozen? ⟨w.heap.size, j, none⟩ = false := by
  have h : s.size ≤ (Lib.bytesCells w e s).size := by
    unfold Lib.bytesCells
    rw [Array.size_append, Array.size_map]
    show s.size ≤ s.size + _
    omega
  simp [World.frozen?, Lib.bytesWorld_at_new]
  omega
set_option maxRecDepth 100000 in
set_option maxHeartbeats 4000000 in
theorem narOne_any (a0 : ByteArray) (hs0 : a0.size ≤ 140737488351232) (at_ b : Int) (ha : 0 ≤ at_ ∧ at_ ≤ 65535) (hb : 0 ≤ b ∧ b ≤ 255) (w : World) :
    Calls Try.prog 6 #[.string a0, .int .u16 at_, .int .u8 b] w fun e w' => e = .returned (.bool true) ∧ Below w.heap.size w w' := by
  have hu24 := Try.underlying24
  obtain ⟨s, hsd⟩ : ∃ s, a0.extract 0 (min a0.size 3000) = s := ⟨_, rfl⟩
  have HSZ := Aside0.mk (show s.size ≤ 3000 from by rw [← hsd, ByteArray.size_extract]; omega)
  have HD := Aside0.mk (fun W => decR_calls s (by have := HSZ.out; omega) W)
  have HWK := Aside0.mk (fun W => works_calls W)
  go_enter Try.func6, Try.ntmps6
  go_wp2_with fail
  rw [show (min (a0.size : Int) 3000).toNat = min a0.size 3000 by omega, hsd]
  clear hsd
  cases hdec : decodeP s with
  | none =>
    have hd : decodeR s = (zeroT, 4) := by unfold decodeR; rw [hdec]
    have HD1 := Aside0.mk (HD.out w)
    rw [hd] at HD1
    have HZ : zeroT.f0 = ⟨#[]⟩ ∧ zeroT.f1 = 0 ∧ zeroT.f2 = false ∧ zeroT.f3 = ⟨#[]⟩ ∧ zeroT.f4 = [] := ⟨rfl, rfl, rfl, rfl, rfl⟩
    dsimp only at HD1
    rw [HZ.1, HZ.2.1, HZ.2.2.1, HZ.2.2.2.1, HZ.2.2.2.2] at HD1
    clear hd HD hdec HZ
    refine HD1.out.mono ?_
    rintro e w1 ⟨v, rfl, hv, hb1⟩
    obtain ⟨Av, cv, rfl⟩ := Kd.R_slice hv
    have HB := Aside0.mk hb1
    clear hv hb1 HD1
    have N2 := Aside0.mk (heap_alloc_new w1 (.cells #[.string ⟨#[]⟩, .int .i64 0, .bool false, .string ⟨#[]⟩, .slice Av ([] : List Tree).length cv] 24))
    have B2 := Aside0.mk (below_then HB.out HB.out.size (below_alloc (Below.refl _ w1) (.cells #[.string ⟨#[]⟩, .int .i64 0, .bool false, .string ⟨#[]⟩, .slice Av ([] : List Tree).length cv] 24)))
    have z1 := (blk_cell N2.out 1).trans (rfl : _ = some (Value.int .i64 0))
    go_wp2_with (first | (go_at_call 12; refine (HWK.out _).mono ?_; rintro e w3 ⟨rfl, hb⟩; have B3 := Aside0.mk hb; clear hb))
    go_ret
    exact ⟨rfl, below_then B2.out B2.out.size B3.out⟩
  | some n =>
    obtain ⟨f1, f2, f3⟩ := decode_some s (by have := HSZ.out; omega) n hdec
    have hne := dec_ne_nil s (by have := HSZ.out; omega) n hdec
    have hd : decodeR s = (n, 0) := by unfold decodeR; rw [hdec]
    have HD1 := Aside0.mk (HD.out w)
    rw [hd] at HD1
    dsimp only at HD1
    have HDE := Aside0.mk hdec
    have HF := Aside0.mk (And.intro f1 (And.intro f2 f3))
    have hs0 : (s.toList == ([] : List UInt8)) = false := by
      rw [tl_eq, beq_eq_false_iff_ne]
      intro h
      exact hne (by show s.data.size = 0; rw [← Array.length_toList, h]; rfl)
    have hsI : ¬ (s.size : Int) = 0 := by omega
    obtain ⟨n0, n1, n2, n3, n4⟩ := n
    clear hd hdec f1 f2 f3
    refine HD1.out.mono ?_
    rintro e w1 ⟨v, rfl, hv, hb1⟩
    obtain ⟨Av, cv, rfl⟩ := Kd.R_slice hv
    have B1 := Aside0.mk hb1
    have V1 := Aside0.mk hv
    clear hv hb1 HD1
    dsimp only at V1 ⊢
    have AL := below_alloc (Below.refl _ w1) (.cells #[.string n0, .int .i64 n1, .bool n2, .string n3, .slice Av n4.length cv] 24)
    have N2 := Aside0.mk (show NAt (w1.alloc (.cells #[.string n0, .int .i64 n1, .bool n2, .string n3, .slice Av n4.length cv] 24)) w1.heap.size n0 n1 n2 n3 (.slice Av n4.length cv) from heap_alloc_new w1 _)
    have B2 := Aside0.mk (below_then B1.out B1.out.size AL)
    have V2 := Aside0.mk (Kd.R_below V1.out AL)
    have z0 := (blk_cell N2.out 0).trans (rfl : _ = some (Value.string n0))
    have z1 := (blk_cell N2.out 1).trans (rfl : _ = some (Value.int .i64 n1))
    have z2 := (blk_cell N2.out 2).trans (rfl : _ = some (Value.bool n2))
    have z3 := (blk_cell N2.out 3).trans (rfl : _ = some (Value.string n3))
    have z4 := (blk_cell N2.out 4).trans (rfl : _ = some (Value.slice Av n4.length cv))
    clear AL B1 V1
    go_wp2_with fail
    clear z0 z1 z2 z3 z4
    generalize w1.alloc (.cells #[.string n0, .int .i64 n1, .bool n2, .string n3, .slice Av n4.length cv] 24) = W2 at N2 B2 V2 ⊢
    have HC2 := Aside0.mk (show n4.length ≤ cv ∧ ∀ W, Below W2.heap.size W2 W → Kd.C k24 W Av n4.length n4 from by
      obtain ⟨A, c, hac, hlc, hC⟩ := Kd.R_reads V2.out
      injection hac with h1 h2 h3
      subst h1; subst h3
      exact ⟨hlc, fun W hW => Kd.C_below hC hW⟩)
    have HE2 := Aside0.mk (show Calls Try.prog 10 #[.agg #[.string n0, .int .i64 n1, .bool n2, .string n3, .slice Av n4.length cv]] W2 fun e w' => e = .returned (.tuple #[.string s, .int .i64 0]) ∧ Below W2.heap.size W2 w' from by
      have := encode_any ⟨n0, n1, n2, n3, n4⟩ HF.out.1 HF.out.2.1 Av cv W2 (HC2.out.2 W2 (Below.refl _ _)) HC2.out.1
      rw [HF.out.2.2] at this
      exact this)
    refine HE2.out.mono ?_
    rintro e w3 ⟨rfl, hb⟩
    have D3 := Aside0.mk hb
    clear hb HE2
    have hss : (s.size : Int) ≤ 3000 := by have := HSZ.out; omega
    have hsp : 0 < (s.size : Int) := by omega
    obtain ⟨j, hj⟩ : ∃ j : Nat, Int.tmod at_ (s.size : Int) = (j : Int) := ⟨(Int.tmod at_ (s.size : Int)).toNat, by have := Int.tmod_nonneg (s.size : Int) ha.1; omega⟩
    have hjs : j < s.size := by have := Int.tmod_lt_of_pos at_ hsp; omega
    have hne : (s.size : Int) ≠ 0 := by omega
    have hat : wrap64 at_ = at_ := by unfold wrap64; omega
    have hwj : wrap64 (j : Int) = (j : Int) := by unfold wrap64; omega
    go_wp2_with fail
    have HZ : zeroT.f0 = ⟨#[]⟩ ∧ zeroT.f1 = 0 ∧ zeroT.f2 = false ∧ zeroT.f3 = ⟨#[]⟩ ∧ zeroT.f4 = [] := ⟨rfl, rfl, rfl, rfl, rfl⟩
    have HP := Aside0.mk (show Calls Try.prog 13 #[.string (s.extract 0 j)] w3 fun e w' => ∃ v : Value, e = .returned (.tuple #[.agg #[.string ⟨#[]⟩, .int .i64 0, .bool false, .string ⟨#[]⟩, v], .int .i64 4]) ∧ Kd.R k24 24 w' w3.heap.size (fun _ => True) v [] ∧ Below w3.heap.size w3 w' from by
      have := decR_calls (s.extract 0 j) (by rw [ByteArray.size_extract]; omega) w3
      rw [pre_none s (by have := HSZ.out; omega) _ HDE.out j hjs] at this
      exact this)
    clear HZ
    refine HP.out.mono ?_
    rintro e w4 ⟨v4, rfl, hv4, hb4⟩
    obtain ⟨Av4, cv4, rfl⟩ := Kd.R_slice hv4
    have D4 := Aside0.mk (below_then D3.out D3.out.size hb4)
    clear hv4 hb4 HP D3
    have hszA : (w4.alloc (.cells #[.string ⟨#[]⟩, .int .i64 0, .bool false, .string ⟨#[]⟩, .slice Av4 0 cv4] 24)).heap.size = w4.heap.size + 1 := Array.size_push _
    have AL4 := below_alloc (Below.refl _ w4) (.cells #[.string ⟨#[]⟩, .int .i64 0, .bool false, .string ⟨#[]⟩, .slice Av4 0 cv4] 24)
    have AL5 := below_alloc (Below.refl _ (w4.alloc (.cells #[.string ⟨#[]⟩, .int .i64 0, .bool false, .string ⟨#[]⟩, .slice Av4 0 cv4] 24))) (.cells #[.int .u8 b] 5)
    have hone : (convert 37 9 (.slice (some ⟨w4.heap.size + 1, 0, none⟩) 1 1)).run Try.prog ((w4.alloc (.cells #[.string ⟨#[]⟩, .int .i64 0, .bool false, .string ⟨#[]⟩, .slice Av4 0 cv4] 24)).alloc (.cells #[.int .u8 b] 5)) = .ok (.string (str [UInt8.ofNat b.toNat])) ((w4.alloc (.cells #[.string ⟨#[]⟩, .int .i64 0, .bool false, .string ⟨#[]⟩, .slice Av4 0 cv4] 24)).alloc (.cells #[.int .u8 b] 5)) := by
      refine string_of_reads _ (some ⟨w4.heap.size + 1, 0, none⟩) 1 [UInt8.ofNat b.toNat] ⟨rfl, by simp, fun _ => ⟨_, rfl, fun i hi => ?_⟩⟩
      obtain rfl : i = 0 := by simpa using hi
      rw [add_plain, ← hszA, cell_new_one]
      have e2 : ((UInt8.ofNat b.toNat).toNat : Int) = b := by rw [u8_lt _ (by omega)]; omega
      simp [ints, e2]
      omega
    have D5 := Aside0.mk (below_then D4.out D4.out.size (below_then AL4 AL4.size AL5))
    clear AL4 AL5 D4
    have HM := Aside0.mk (fun W => show Calls Try.prog 13 #[.string (s ++ str [UInt8.ofNat b.toNat])] W fun e w' => ∃ v : Value, e = .returned (.tuple #[.agg #[.string ⟨#[]⟩, .int .i64 0, .bool false, .string ⟨#[]⟩, v], .int .i64 4]) ∧ Kd.R k24 24 w' W.heap.size (fun _ => True) v [] ∧ Below W.heap.size W w' from by
      have hsz1 : (s ++ str [UInt8.ofNat b.toNat]).size ≤ 140737488351232 := by rw [ByteArray.size_append, str_size]; simp; omega
      have := decR_calls (s ++ str [UInt8.ofNat b.toNat]) hsz1 W
      rw [more_none s (str [UInt8.ofNat b.toNat]) (by rw [str_size]; simp) hsz1 _ HDE.out] at this
      exact this)
    have hone1 : (str [UInt8.ofNat b.toNat]).size = 1 := by rw [str_size]; rfl
    generalize str [UInt8.ofNat b.toNat] = one at *
    have hmx : s.size + one.size ≤ 9223372036854775807 := by omega
    go_wp2_with fail
    clear hone hszA
    generalize (w4.alloc (.cells #[.string ⟨#[]⟩, .int .i64 0, .bool false, .string ⟨#[]⟩, .slice Av4 0 cv4] 24)).alloc (.cells #[.int .u8 b] 5) = W5 at D5 ⊢
    refine (HM.out W5).mono ?_
    rintro e w6 ⟨v6, rfl, hv6, hb6⟩
    obtain ⟨Av6, cv6, rfl⟩ := Kd.R_slice hv6
    have D7 := Aside0.mk (below_then (below_then D5.out D5.out.size hb6) (Nat.le_trans D5.out.size hb6.size) (below_alloc (Below.refl _ w6) (.cells #[.string ⟨#[]⟩, .int .i64 0, .bool false, .string ⟨#[]⟩, .slice Av6 0 cv6] 24)))
    clear hv6 hb6 HM D5
    have N7 := Aside0.mk (show NAt (w6.alloc (.cells #[.string ⟨#[]⟩, .int .i64 0, .bool false, .string ⟨#[]⟩, .slice Av6 0 cv6] 24)) w1.heap.size n0 n1 n2 n3 (.slice Av n4.length cv) from blk_below N2.out D7.out)
    have z0 := (blk_cell N7.out 0).trans (rfl : _ = some (Value.string n0))
    have z1 := (blk_cell N7.out 1).trans (rfl : _ = some (Value.int .i64 n1))
    have z2 := (blk_cell N7.out 2).trans (rfl : _ = some (Value.bool n2))
    have z3 := (blk_cell N7.out 3).trans (rfl : _ = some (Value.string n3))
    have z4 := (blk_cell N7.out 4).trans (rfl : _ = some (Value.slice Av n4.length cv))
    have hsne : (s.toList != s.toList) = false := bne_self_eq_false _
    go_wp2_with fail
    clear z0 z1 z2 z3 z4
    generalize w6.alloc (.cells #[.string ⟨#[]⟩, .int .i64 0, .bool false, .string ⟨#[]⟩, .slice Av6 0 cv6] 24) = W7 at D7 N7 ⊢
    have HCK := Aside0.mk (show Calls Try.prog 16 #[.agg #[.string n0, .int .i64 n1, .bool n2, .string n3, .slice Av n4.length cv]] W7 fun e w' => e = .returned (.int .i64 0) ∧ Below W7.heap.size W7 w' from by
      obtain ⟨k0, hk0⟩ := check_ev ⟨n0, n1, n2, n3, n4⟩ HF.out.1 HF.out.2.1
      obtain ⟨c1, -, -⟩ := enc_ok ⟨n0, n1, n2, n3, n4⟩ (by rw [HF.out.2.2])
      rw [c1] at hk0
      exact tree_Check.calls k0 n0 n1 n2 n3 Av cv n4 0 W7 (HC2.out.2 W7 D7.out) HC2.out.1 (hk0 k0 (Nat.le_refl _)))
    refine HCK.out.mono ?_
    rintro e w8 ⟨rfl, hb8⟩
    have N8 := Aside0.mk (show NAt w8 w1.heap.size n0 n1 n2 n3 (.slice Av n4.length cv) from blk_below N7.out hb8)
    have D8 := Aside0.mk (below_then D7.out D7.out.size hb8)
    clear hb8 HCK N7 D7
    have hcb : ∀ W : World, (convert 9 37 (.string s)).run Try.prog W = .ok (.slice (some ⟨W.heap.size, 0, none⟩) s.size (grownCap W s.size 0 5)) (Lib.bytesWorld W 5 s) := fun W => print_bytes 9 37 5 Try.underlying9 Try.underlying37 Try.underlying5 s W
    have hl : (Lib.bytesWorld w8 5 s).cell? ⟨w8.heap.size, j, none⟩ = some (.int .u8 (s.data.toList.getD j 0).toNat) := Lib.bytesWorld_cell w8 5 s j hjs
    have hfz := bytes_frozen w8 5 s j hjs
    generalize hx : (s.data.toList.getD j 0).toNat = x at hl
    have hx256 : x < 256 := by rw [← hx]; exact UInt8.toNat_lt _
    obtain ⟨y, hyb, hy256, hyx⟩ := flip_u8 x b hx256 hb
    obtain ⟨u, hu⟩ : ∃ u, str ((bl s).set j (UInt8.ofNat y)) = u := ⟨_, rfl⟩
    have hul : ((bl s).set j (UInt8.ofNat y)).length = s.size := by rw [List.length_set]; rfl
    have husz : u.size = s.size := by rw [← hu, str_size, hul]
    have hsu : s ≠ u := by
      intro h
      have h2 : (bl s).getD j 0 = ((bl s).set j (UInt8.ofNat y)).getD j 0 := by rw [← bl_str ((bl s).set j (UInt8.ofNat y)), hu, ← h]
      have hjl : j < (bl s).length := hjs
      rw [List.getD_eq_getElem?_getD (l := (bl s).set j (UInt8.ofNat y)), List.getElem?_set_self hjl, Option.getD_some] at h2
      have h3 : x = (UInt8.ofNat y).toNat := by rw [← hx]; exact congrArg UInt8.toNat h2
      rw [u8_lt y hy256] at h3
      exact hyx h3.symm
    have hcv2 : (convert 37 9 (.slice (some ⟨w8.heap.size, 0, none⟩) s.size (grownCap w8 s.size 0 5))).run Try.prog ((Lib.bytesWorld w8 5 s).setCell ⟨w8.heap.size, j, none⟩ (.int .u8 (y : Int))) = .ok (.string u) ((Lib.bytesWorld w8 5 s).setCell ⟨w8.heap.size, j, none⟩ (.int .u8 (y : Int))) := by
      have := string_of_reads ((Lib.bytesWorld w8 5 s).setCell ⟨w8.heap.size, j, none⟩ (.int .u8 (y : Int))) (some ⟨w8.heap.size, 0, none⟩) (grownCap w8 s.size 0 5) ((bl s).set j (UInt8.ofNat y)) ⟨by rw [ints_length], by omega, fun _ => ⟨_, rfl, fun i hi => ?_⟩⟩
      · rw [hul, hu] at this; exact this
      · rw [hul] at hi
        rw [add_plain]
        have e1 : (ints ((bl s).set j (UInt8.ofNat y))).getD i 0 = ((((bl s).set j (UInt8.ofNat y)).getD i 0).toNat : Int) := by
          have hil : i < ((bl s).set j (UInt8.ofNat y)).length := by omega
          simp only [ints, List.getD_eq_getElem?_getD, List.getElem?_map, List.getElem?_eq_getElem hil, Option.map_some, Option.getD_some]
        rw [e1]
        by_cases hij : i = j
        · subst hij
          have hjl : i < (bl s).length := hjs
          rw [(World.cell?_setCell_same' _ _ _ (by rw [hl]; rfl)), List.getD_eq_getElem?_getD, List.getElem?_set_self hjl, Option.getD_some, u8_lt y hy256]
        · have hne2 : (⟨w8.heap.size, j, none⟩ : Addr) ≠ ⟨w8.heap.size, i, none⟩ := by intro h; injection h with h1 h2; exact hij h2.symm
          have ho := World.cell?_setCell_other (w := Lib.bytesWorld w8 5 s) (v := .int .u8 (y : Int)) (h := hne2)
          rw [ho, Lib.bytesWorld_cell w8 5 s i hi, List.getD_eq_getElem?_getD, List.getD_eq_getElem?_getD, List.getElem?_set_ne (fun h => hij h.symm)]
          rfl
    have D9 := Aside0.mk ((bytes_below D8.out D8.out.size 5 s).setCell (p := ⟨w8.heap.size, j, none⟩) D8.out.size (.int .u8 (y : Int)))
    have HU := Aside0.mk (And.intro hsu husz)
    clear hu hul husz hsu hx
    go_wp2_with fail
    have HUD := Aside0.mk (fun W => decR_calls u (by have := HU.out.2; have := HSZ.out; omega) W)
    generalize (Lib.bytesWorld w8 5 s).setCell ⟨w8.heap.size, j, none⟩ (.int .u8 (y : Int)) = W9 at D9 ⊢
    clear hcv2 hcb hl hfz hyb D8
    have N9 := Aside0.mk (show NAt W9 w1.heap.size n0 n1 n2 n3 (.slice Av n4.length cv) from blk_below N2.out D9.out)
    clear N8
    cases hdu : decodeP u with
    | none =>
      have hd : decodeR u = (zeroT, 4) := by unfold decodeR; rw [hdu]
      have HU1 := HUD.out W9
      rw [hd] at HU1
      have HU2 := Aside0.mk (show Calls Try.prog 13 #[.string u] W9 fun e w' => ∃ v : Value, e = .returned (.tuple #[.agg #[.string ⟨#[]⟩, .int .i64 0, .bool false, .string ⟨#[]⟩, v], .int .i64 4]) ∧ Kd.R k24 24 w' W9.heap.size (fun _ => True) v [] ∧ Below W9.heap.size W9 w' from HU1)
      clear HU1 hd hdu HUD
      refine HU2.out.mono ?_
      rintro e w10 ⟨v10, rfl, hv10, hb10⟩
      obtain ⟨Am, cm, rfl⟩ := Kd.R_slice hv10
      have D11 := Aside0.mk (below_then (below_then D9.out D9.out.size hb10) (Nat.le_trans D9.out.size hb10.size) (below_alloc (Below.refl _ w10) (.cells #[.string ⟨#[]⟩, .int .i64 0, .bool false, .string ⟨#[]⟩, .slice Am ([] : List Tree).length cm] 24)))
      clear hv10 hb10 HU2
      go_wp2_with (first | (go_at_call 12; refine (HWK.out _).mono ?_; rintro e w12 ⟨rfl, hb⟩; have D12 := Aside0.mk hb; clear hb))
      go_ret
      exact ⟨rfl, below_then B2.out B2.out.size (below_then D11.out D11.out.size D12.out)⟩
    | some m =>
      obtain ⟨g1, g2, g3⟩ := decode_some u (by have := HU.out.2; have := HSZ.out; omega) m hdu
      have hsm := other_ne s u (by have := HSZ.out; omega) (by have := HU.out.2; have := HSZ.out; omega) _ m HDE.out hdu HU.out.1
      have hd : decodeR u = (m, 0) := by unfold decodeR; rw [hdu]
      have HU1 := HUD.out W9
      rw [hd] at HU1
      have HG := Aside0.mk (And.intro g1 hsm)
      obtain ⟨m0, m1, m2, m3, m4⟩ := m
      have HU2 := Aside0.mk (show Calls Try.prog 13 #[.string u] W9 fun e w' => ∃ v : Value, e = .returned (.tuple #[.agg #[.string m0, .int .i64 m1, .bool m2, .string m3, v], .int .i64 0]) ∧ Kd.R k24 24 w' W9.heap.size (fun _ => True) v m4 ∧ Below W9.heap.size W9 w' from HU1)
      clear HU1 hd hdu HUD g1 g2 g3 hsm
      refine HU2.out.mono ?_
      rintro e w10 ⟨v10, rfl, hv10, hb10⟩
      obtain ⟨Am, cm, rfl⟩ := Kd.R_slice hv10
      have AL := below_alloc (Below.refl _ w10) (.cells #[.string m0, .int .i64 m1, .bool m2, .string m3, .slice Am m4.length cm] 24)
      have D11 := Aside0.mk (below_then (below_then D9.out D9.out.size hb10) (Nat.le_trans D9.out.size hb10.size) AL)
      have M11 := Aside0.mk (heap_alloc_new w10 (.cells #[.string m0, .int .i64 m1, .bool m2, .string m3, .slice Am m4.length cm] 24))
      have N11 := Aside0.mk (show NAt (w10.alloc (.cells #[.string m0, .int .i64 m1, .bool m2, .string m3, .slice Am m4.length cm] 24)) w1.heap.size n0 n1 n2 n3 (.slice Av n4.length cv) from blk_below N2.out D11.out)
      have HSM := Aside0.mk (show Calls Try.prog 17 #[.agg #[.string n0, .int .i64 n1, .bool n2, .string n3, .slice Av n4.length cv], .agg #[.string m0, .int .i64 m1, .bool m2, .string m3, .slice Am m4.length cm]] (w10.alloc (.cells #[.string m0, .int .i64 m1, .bool m2, .string m3, .slice Am m4.length cm] 24)) fun e w' => e = .returned (.bool false) ∧ Below (w10.alloc (.cells #[.string m0, .int .i64 m1, .bool m2, .string m3, .slice Am m4.length cm] 24)).heap.size (w10.alloc (.cells #[.string m0, .int .i64 m1, .bool m2, .string m3, .slice Am m4.length cm] 24)) w' from by
        obtain ⟨A, c, hac, hlc, hC⟩ := Kd.R_reads hv10
        injection hac with h1 h2 h3
        subst h1; subst h3
        have := same_any ⟨n0, n1, n2, n3, n4⟩ HF.out.1 ⟨m0, m1, m2, m3, m4⟩ Av cv Am cm _ HG.out.1 (HC2.out.2 _ D11.out) HC2.out.1 (Kd.C_below hC AL) hlc
        rw [HG.out.2] at this
        exact this)
      clear hv10 hb10 HU2 AL
      have z0 := (blk_cell N11.out 0).trans (rfl : _ = some (Value.string n0))
      have z1 := (blk_cell N11.out 1).trans (rfl : _ = some (Value.int .i64 n1))
      have z2 := (blk_cell N11.out 2).trans (rfl : _ = some (Value.bool n2))
      have z3 := (blk_cell N11.out 3).trans (rfl : _ = some (Value.string n3))
      have z4 := (blk_cell N11.out 4).trans (rfl : _ = some (Value.slice Av n4.length cv))
      have x0 := (blk_cell M11.out 0).trans (rfl : _ = some (Value.string m0))
      have x1 := (blk_cell M11.out 1).trans (rfl : _ = some (Value.int .i64 m1))
      have x2 := (blk_cell M11.out 2).trans (rfl : _ = some (Value.bool m2))
      have x3 := (blk_cell M11.out 3).trans (rfl : _ = some (Value.string m3))
      have x4 := (blk_cell M11.out 4).trans (rfl : _ = some (Value.slice Am m4.length cm))
      go_wp2_with (first | (go_at_call 17; refine HSM.out.mono ?_; rintro e w12 ⟨rfl, hb⟩; have D12 := Aside0.mk hb; clear hb) | (go_at_call 12; refine (HWK.out _).mono ?_; rintro e w13 ⟨rfl, hb⟩; have D13 := Aside0.mk hb; clear hb))
      go_ret
      exact ⟨rfl, below_then B2.out B2.out.size (below_then D11.out D11.out.size (below_then D12.out D12.out.size D13.out))⟩
end Go.Proofs.Ytnnpfahlfmeakaa.PB

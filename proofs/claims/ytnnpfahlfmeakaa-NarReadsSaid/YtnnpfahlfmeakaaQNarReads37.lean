import Derived.Test.YtnnpfahlfmeakaaQNarReads24
import Derived.Test.YtnnpfahlfmeakaaQNarReads25
import Derived.Test.YtnnpfahlfmeakaaQNarReads33
import Derived.Test.YtnnpfahlfmeakaaQNarReads34
import Derived.Test.YtnnpfahlfmeakaaQNarReads36
namespace Go.Proofs.Ytnnpfahlfmeakaa
open Go.RowKit Go.Proofs.Ytnnpfahlfmeakaa.PB Go.Proofs.YtnnpfahlfmeakaaW.PrintWords Go.Proofs.YtnnpfahlfmeakaaW.PrintLast
set_option linter.unusedVariables false
set_option linter.unusedSimpArgs false
theorem bind_id {α : Type} (x : Option α) : (x.bind fun t => some t) = x := by cases x <;> rfl
theorem refPutNum_ev (s : ByteArray) (n : Nat) (hn : n < 18446744073709551616) (hs : s.size ≤ 9223372036854775000) : Ev (fun k => whiskref01_PutNum.f k s (n : Int)) (s ++ encNum n) :=
  ⟨11, fun k hk => at_rounds (g := fun k => whiskref01_PutNum.f k s (n : Int)) (fun k => whiskref01_PutNum.mono s n k) hk (refPutNum_eq s n hn hs)⟩
theorem refPutText_f (s t : ByteArray) (h : s.size + t.size ≤ 9223372036854775000) : whiskref01_PutText.f s t = some (s ++ (encNum t.size ++ t)) := by
  unfold whiskref01_PutText.f
  rw [if_pos h]; unfold putText; rw [ByteArray.append_assoc]
theorem wrapu (n : Nat) (h : n < 18446744073709551616) : IntKind.u64.wrap (n : Int) = (n : Int) := by
  rw [IntKind.wrap_u64]; omega
theorem kidsB_drop (ks : List Tree) (i : Nat) (h : i < ks.length) : kidsB (ks.drop i) = (encNum ks[i].f0.size ++ ks[i].f0) ++ (nodeB ks[i] ++ kidsB (ks.drop (i + 1))) := by
  rw [List.drop_eq_getElem_cons h]; simp only [kidsB]
theorem refNode_loop (t : Tree) (hl : t.f4.length ≤ 1954687338212)
    (ih : ∀ x ∈ t.f4, ∀ s : ByteArray, s.size + (nodeB x).size ≤ 9223372036854770000 → Ev (fun k => whiskref09_node.f k s x.f0 x.f1 x.f2 x.f3 x.f4) (s ++ nodeB x)) :
    ∀ (n i : Nat) (s : ByteArray), t.f4.length - i = n → i ≤ t.f4.length → s.size + (kidsB (t.f4.drop i)).size ≤ 9223372036854770000 → Ev (fun k => whiskref09_node.l0 k s (i : Int) t.f0 t.f1 t.f2 t.f3 t.f4) (s ++ kidsB (t.f4.drop i))
  | 0, i, s, hn, hi, hs => by
    refine Ev.succ ((Ev.const _).congr (fun k => ?_) rfl)
    simp only [whiskref09_node.l0]
    rw [if_neg (by omega), List.drop_of_length_le (by omega)]
    simp [kidsB]
  | n + 1, i, s, hn, hi, hs => by
    have h1 : i < t.f4.length := by omega
    rw [kidsB_drop _ _ h1] at hs ⊢
    simp only [ByteArray.size_append] at hs
    have e1 := refPutText_f s t.f4[i].f0 (by omega)
    have h2 := ih t.f4[i] (List.getElem_mem h1) (s ++ (encNum t.f4[i].f0.size ++ t.f4[i].f0)) (by simp only [ByteArray.size_append]; omega)
    have h3 := refNode_loop t hl ih n (i + 1) (s ++ (encNum t.f4[i].f0.size ++ t.f4[i].f0) ++ nodeB t.f4[i]) (by omega) (by omega) (by simp only [ByteArray.size_append]; omega)
    refine Ev.succ (Ev.congr (h2.bind (g := fun k q => whiskref09_node.l0 k q ((i + 1 : Nat) : Int) t.f0 t.f1 t.f2 t.f3 t.f4) h3) (fun k => ?_) ?_)
    · simp only [whiskref09_node.l0]
      rw [if_pos (by omega), if_pos (by omega), rd_at t.f4 i h1, wrap64_id ((i : Int) + 1) (by omega) (by omega), e1]
      rfl
    · simp only [ByteArray.append_assoc]
theorem nodeB_eq (t : Tree) : nodeB t = encNum t.f1.toNat ++ (if t.f1 = 1 then encNum (if t.f2 then 1 else 0) ++ (encNum t.f3.size ++ t.f3) else if t.f1 = 3 then encNum t.f3.size ++ t.f3 else encNum t.f4.length ++ kidsB t.f4) := by cases t; simp only [nodeB]
theorem refNode_ev (t : Tree) (hf : Fit t) : mayP t = true → ∀ s : ByteArray, s.size + (nodeB t).size ≤ 9223372036854770000 → Ev (fun k => whiskref09_node.f k s t.f0 t.f1 t.f2 t.f3 t.f4) (s ++ nodeB t) := by
  induction hf with
  | mk t h0 h1 h3 h4 hk ih =>
    intro hm s hs
    have hkind : t.f1 = 1 ∨ t.f1 = 2 ∨ t.f1 = 3 := by
      obtain ⟨nm, kd, ex, dt, ks⟩ := t
      by_cases k1 : kd = 1
      · exact .inl k1
      by_cases k2 : kd = 2
      · exact .inr (.inl k2)
      by_cases k3 : kd = 3
      · exact .inr (.inr k3)
      simp [mayP, k1, k2, k3] at hm
    have ihk : ∀ x ∈ t.f4, ∀ s : ByteArray, s.size + (nodeB x).size ≤ 9223372036854770000 → Ev (fun k => whiskref09_node.f k s x.f0 x.f1 x.f2 x.f3 x.f4) (s ++ nodeB x) := fun x hx => ih x hx ((mayP_kids t hm).2 x hx)
    rw [nodeB_eq] at hs ⊢
    rcases hkind with e | e | e
    · rw [e] at hs ⊢
      simp only [if_true, ByteArray.size_append, Int.reduceToNat] at hs ⊢
      have a1 := refPutNum_ev s 1 (by decide) (by omega)
      have a2 := refPutNum_ev (s ++ encNum 1) (if t.f2 = true then 1 else 0) (by split <;> decide) (by simp only [ByteArray.size_append]; omega)
      have a3 := refPutText_f (s ++ encNum 1 ++ encNum (if t.f2 = true then 1 else 0)) t.f3 (by simp only [ByteArray.size_append]; omega)
      refine Ev.succ (Ev.congr (a1.bind (g := fun k q => (whiskref01_PutNum.f k q ((if t.f2 = true then 1 else 0 : Nat) : Int)).bind fun q2 => whiskref01_PutText.f q2 t.f3) (a2.bind (g := fun k q2 => whiskref01_PutText.f q2 t.f3) ((Ev.const _).congr (fun k => a3) rfl))) (fun k => ?_) ?_)
      · simp only [whiskref09_node.f]
        rw [show IntKind.u64.wrap 1 = ((1 : Nat) : Int) from wrapu 1 (by decide)]
        cases t.f2
        · simp only [Bool.false_eq_true, if_false, if_true, bind_id]; rfl
        · simp only [if_true, bind_id]; rfl
      · simp only [ByteArray.append_assoc]
    · rw [e] at hs ⊢
      simp only [Int.reduceEq, if_false, ByteArray.size_append, Int.reduceToNat] at hs ⊢
      have a1 := refPutNum_ev s 2 (by decide) (by omega)
      have a2 := refPutNum_ev (s ++ encNum 2) t.f4.length (by omega) (by simp only [ByteArray.size_append]; omega)
      have a3 := refNode_loop t h4 ihk t.f4.length 0 (s ++ encNum 2 ++ encNum t.f4.length) (by omega) (by omega) (by simp only [ByteArray.size_append, List.drop_zero]; omega)
      rw [List.drop_zero] at a3
      refine Ev.succ (Ev.congr (a1.bind (g := fun k q => (whiskref01_PutNum.f k q (t.f4.length : Int)).bind fun q2 => whiskref09_node.l0 k q2 0 t.f0 t.f1 t.f2 t.f3 t.f4) (a2.bind (g := fun k q2 => whiskref09_node.l0 k q2 0 t.f0 t.f1 t.f2 t.f3 t.f4) a3)) (fun k => ?_) ?_)
      · simp only [whiskref09_node.f]
        rw [e, show IntKind.u64.wrap 2 = ((2 : Nat) : Int) from wrapu 2 (by decide), wrapu _ (by omega)]
        simp only [Int.reduceEq, if_false]
      · simp only [ByteArray.append_assoc]
    · rw [e] at hs ⊢
      simp only [Int.reduceEq, if_true, if_false, ByteArray.size_append, Int.reduceToNat] at hs ⊢
      have a1 := refPutNum_ev s 3 (by decide) (by omega)
      have a3 := refPutText_f (s ++ encNum 3) t.f3 (by simp only [ByteArray.size_append]; omega)
      refine Ev.succ (Ev.congr (a1.bind (g := fun k q => whiskref01_PutText.f q t.f3) ((Ev.const _).congr (fun k => a3) rfl)) (fun k => ?_) ?_)
      · simp only [whiskref09_node.f]
        rw [show IntKind.u64.wrap 3 = ((3 : Nat) : Int) from wrapu 3 (by decide)]
        simp only [Int.reduceEq, if_false, if_true, bind_id]
      · simp only [ByteArray.append_assoc]
theorem refEncode_ev (t : Tree) (hf : Fit t) (hz : Sized t) : Ev (fun k => whiskref09_Encode.f k t.f0 t.f1 t.f2 t.f3 t.f4) (encP t) := by
  have hc := refCheck_ev t hf hz
  by_cases h0 : checkP t = 0
  · obtain ⟨b1, b2, b3, b4, b5⟩ := checkP_ok t h0
    have b6 := nodeB_size t hf b3
    have b7 := magicB_size
    have a1 := refPutText_f ⟨#[]⟩ ⟨#[119, 104, 105, 115, 107, 45, 116, 114, 101, 101]⟩ (by decide)
    rw [show (⟨#[]⟩ : ByteArray) ++ (encNum (⟨#[119, 104, 105, 115, 107, 45, 116, 114, 101, 101]⟩ : ByteArray).size ++ (⟨#[119, 104, 105, 115, 107, 45, 116, 114, 101, 101]⟩ : ByteArray)) = magicB from ByteArray.empty_append] at a1
    have a2 := refNode_ev t hf b3 magicB (by omega)
    refine Ev.congr (hc.bind (g := fun k c => if c = 0 then ((whiskref09_node.f k magicB t.f0 t.f1 t.f2 t.f3 t.f4).bind fun t213 => (if (t213.size : Int) > 60000 then (some ((⟨#[]⟩ : ByteArray), 3)) else (some (t213, 0)))) else some ((⟨#[]⟩ : ByteArray), c)) (u := encP t) ?_) (fun k => ?_) rfl
    · refine Ev.congr (a2.bind (g := fun k t213 => (if (t213.size : Int) > 60000 then (some ((⟨#[]⟩ : ByteArray), 3)) else (some (t213, 0)))) (u := encP t) ((Ev.const _).congr (fun k => ?_) rfl)) (fun k => ?_) rfl
      · unfold encP
        rw [if_pos h0]
        by_cases h6 : 60000 < (magicB ++ nodeB t).size
        · rw [if_pos (by omega), if_pos h6]
        · rw [if_neg (by omega), if_neg h6]
      · rw [if_pos h0]
    · simp only [whiskref09_Encode.f, a1, Option.bind_some]
  · refine Ev.congr (hc.bind (g := fun k c => if c = 0 then ((whiskref01_PutText.f (⟨#[]⟩ : ByteArray) (⟨#[119, 104, 105, 115, 107, 45, 116, 114, 101, 101]⟩ : ByteArray)).bind fun t212 => ((whiskref09_node.f k t212 t.f0 t.f1 t.f2 t.f3 t.f4).bind fun t213 => (if (t213.size : Int) > 60000 then (some ((⟨#[]⟩ : ByteArray), 3)) else (some (t213, 0))))) else some ((⟨#[]⟩ : ByteArray), c)) (u := encP t) ((Ev.const _).congr (fun k => ?_) rfl)) (fun k => ?_) rfl
    · rw [if_neg h0]; unfold encP; rw [if_neg h0]
    · simp only [whiskref09_Encode.f]
end Go.Proofs.Ytnnpfahlfmeakaa
namespace Go.Proofs.Ytnnpfahlfmeakaa
open Go.RowKit Go.Proofs.Ytnnpfahlfmeakaa.PB Go.Proofs.YtnnpfahlfmeakaaW.PrintWords Go.Proofs.YtnnpfahlfmeakaaW.PrintLast
set_option linter.unusedVariables false
set_option linter.unusedSimpArgs false
def txF (l : List UInt8) (lost : Bool) : List UInt8 × List UInt8 × Bool :=
  if (after lost (refNum l)).1.length < numOf (refNum l) then ([], [], true) else ((after lost (refNum l)).1.take (numOf (refNum l)), (after lost (refNum l)).1.drop (numOf (refNum l)), (after lost (refNum l)).2)
abbrev RdV := Tree × Bool × List UInt8 × Bool
def rdK (f : List UInt8 → Bool → RdV) : Nat → List UInt8 → Bool → List Tree → List Tree × Bool × List UInt8 × Bool
  | 0, l, lost, acc => (acc, !lost, l, lost)
  | n + 1, l, lost, acc =>
    if (f (txF l lost).2.1 (txF l lost).2.2).2.1 = true then
      rdK f n (f (txF l lost).2.1 (txF l lost).2.2).2.2.1 (f (txF l lost).2.1 (txF l lost).2.2).2.2.2 (acc ++ [⟨str (txF l lost).1, (f (txF l lost).2.1 (txF l lost).2.2).1.f1, (f (txF l lost).2.1 (txF l lost).2.2).1.f2, (f (txF l lost).2.1 (txF l lost).2.2).1.f3, (f (txF l lost).2.1 (txF l lost).2.2).1.f4⟩])
    else (acc, false, (f (txF l lost).2.1 (txF l lost).2.2).2.2.1, (f (txF l lost).2.1 (txF l lost).2.2).2.2.2)
def rdD (f : Option (List UInt8 → Bool → RdV)) (c : Nat) (l : List UInt8) (lost : Bool) : RdV :=
  match f with
  | none => (⟨⟨#[]⟩, 2, false, ⟨#[]⟩, []⟩, false, l, lost)
  | some f => if 2000 < c ∨ lost = true then (⟨⟨#[]⟩, 2, false, ⟨#[]⟩, []⟩, false, l, lost) else (⟨⟨#[]⟩, 2, false, ⟨#[]⟩, (rdK f c l lost []).1⟩, (rdK f c l lost []).2)
def rdH (f : Option (List UInt8 → Bool → RdV)) (l : List UInt8) (lost : Bool) : RdV :=
  if numOf (refNum l) % 1000 = 1 then
    (⟨⟨#[]⟩, 1, numOf (refNum (after lost (refNum l)).1) == 1, str (txF (after (after lost (refNum l)).2 (refNum (after lost (refNum l)).1)).1 (after (after lost (refNum l)).2 (refNum (after lost (refNum l)).1)).2).1, []⟩,
      decide (numOf (refNum (after lost (refNum l)).1) ≤ 1) && !(txF (after (after lost (refNum l)).2 (refNum (after lost (refNum l)).1)).1 (after (after lost (refNum l)).2 (refNum (after lost (refNum l)).1)).2).2.2,
      (txF (after (after lost (refNum l)).2 (refNum (after lost (refNum l)).1)).1 (after (after lost (refNum l)).2 (refNum (after lost (refNum l)).1)).2).2)
  else if numOf (refNum l) % 1000 = 3 then
    (⟨⟨#[]⟩, 3, false, str (txF (after lost (refNum l)).1 (after lost (refNum l)).2).1, []⟩, !(txF (after lost (refNum l)).1 (after lost (refNum l)).2).2.2, (txF (after lost (refNum l)).1 (after lost (refNum l)).2).2)
  else if numOf (refNum l) % 1000 = 2 then rdD f (numOf (refNum (after lost (refNum l)).1)) (after (after lost (refNum l)).2 (refNum (after lost (refNum l)).1)).1 (after (after lost (refNum l)).2 (refNum (after lost (refNum l)).1)).2
  else (⟨⟨#[]⟩, ((numOf (refNum l) % 1000 : Nat) : Int), false, ⟨#[]⟩, []⟩, false, (after lost (refNum l)))
def rdP : Nat → List UInt8 → Bool → RdV
  | 0 => rdH none
  | m + 1 => rdH (some (rdP m))
def tup (v : RdV) : ByteArray × Int × Bool × ByteArray × List Tree × Bool × ByteArray × Bool := (v.1.f0, v.1.f1, v.1.f2, v.1.f3, v.1.f4, v.2.1, str v.2.2.1, v.2.2.2)
theorem refNum_len {l r : List UInt8} {n : Nat} (h : refNum l = some (n, r)) : r.length + 1 ≤ l.length ∧ n < 18446744073709551616 := by
  unfold refNum at h
  split at h
  · rename_i h0
    split at h
    · injection h with h; injection h with h1 h2; subst h1; subst h2
      exact ⟨by rw [List.length_drop]; omega, numVal_lt _⟩
    · cases h
  · cases h
theorem numOf_lt (l : List UInt8) : numOf (refNum l) < 18446744073709551616 := by
  cases h : refNum l with
  | none => decide
  | some p => exact (refNum_len (r := p.2) (n := p.1) h).2
theorem after_len (lost : Bool) (l : List UInt8) : (after lost (refNum l)).1.length ≤ l.length := by
  cases h : refNum l with
  | none => exact Nat.zero_le _
  | some p => have := (refNum_len (r := p.2) (n := p.1) h).1; show p.2.length ≤ _; omega
/-- What isn't lost was read. -/
theorem after_ok (lost : Bool) (l : List UInt8) (h : (after lost (refNum l)).2 = false) : lost = false ∧ (after lost (refNum l)).1.length + 1 ≤ l.length := by
  cases hn : refNum l with
  | none => rw [hn] at h; cases h
  | some p => rw [hn] at h; exact ⟨h, (refNum_len (r := p.2) (n := p.1) hn).1⟩
theorem txF_len (lost : Bool) (l : List UInt8) : (txF l lost).2.1.length ≤ l.length := by
  have := after_len lost l
  unfold txF
  split
  · exact Nat.zero_le _
  · show ((after lost (refNum l)).1.drop _).length ≤ _; rw [List.length_drop]; omega
theorem txF_ok (lost : Bool) (l : List UInt8) (h : (txF l lost).2.2 = false) : lost = false ∧ (txF l lost).1.length + (txF l lost).2.1.length + 1 ≤ l.length := by
  unfold txF at h ⊢
  split at h
  · cases h
  · obtain ⟨h1, h2⟩ := after_ok lost l h
    refine ⟨h1, ?_⟩
    rename_i h3
    rw [if_neg h3]
    simp only [List.length_take, List.length_drop]
    omega
theorem num_f (l : List UInt8) (lost : Bool) (hl : l.length ≤ 4611686018427387904) : whiskref01_Reader_Num.f (str l) lost = some (((numOf (refNum l) : Nat) : Int), str (after lost (refNum l)).1, (after lost (refNum l)).2) := by
  unfold whiskref01_Reader_Num.f
  rw [if_pos (by show l.toArray.size ≤ _; simpa using hl)]
  rfl
theorem str_len (l : List UInt8) : (str l).size = l.length := by simp [str, ByteArray.size]
theorem str_extract (l : List UInt8) (a b : Nat) (h : b ≤ l.length) : (str l).extract a b = str ((l.take b).drop a) := by
  refine ByteArray.ext (Array.toList_inj.1 ?_)
  rw [ByteArray.data_extract]
  show (l.toArray.extract a b).toList = (l.take b).drop a
  rw [List.drop_take]
  simp
theorem text_f (l : List UInt8) (lost : Bool) (hl : l.length ≤ 4611686018427387904) : whiskref01_Reader_Text.f (str l) lost = some (str (txF l lost).1, str (txF l lost).2.1, (txF l lost).2.2) := by
  have h1 := after_len lost l
  have h2 := numOf_lt l
  unfold whiskref01_Reader_Text.f txF
  rw [num_f l lost hl]
  simp only [Option.bind_some, str_len]
  generalize after lost (refNum l) = a at *
  generalize numOf (refNum l) = n at *
  rw [wrapu _ (by omega)]
  by_cases h : a.1.length < n
  · rw [if_pos (by omega), if_pos h]; rfl
  · rw [if_neg (by omega), if_neg h, if_pos (by omega), if_pos (by omega)]
    simp only [Int.toNat_natCast]
    rw [str_extract _ _ _ (by omega), str_extract _ _ _ (by omega), List.drop_zero, List.take_length]
theorem rdK_len {f : List UInt8 → Bool → RdV} (hf : ∀ l lost, (f l lost).2.2.1.length ≤ l.length) : ∀ (n : Nat) (l : List UInt8) (lost : Bool) (acc : List Tree), (rdK f n l lost acc).2.2.1.length ≤ l.length
  | 0, l, lost, acc => Nat.le_refl _
  | n + 1, l, lost, acc => by
    have h1 := txF_len lost l
    have h2 := hf (txF l lost).2.1 (txF l lost).2.2
    simp only [rdK]
    split
    · have := rdK_len hf n (f (txF l lost).2.1 (txF l lost).2.2).2.2.1 (f (txF l lost).2.1 (txF l lost).2.2).2.2.2 (acc ++ [⟨str (txF l lost).1, (f (txF l lost).2.1 (txF l lost).2.2).1.f1, (f (txF l lost).2.1 (txF l lost).2.2).1.f2, (f (txF l lost).2.1 (txF l lost).2.2).1.f3, (f (txF l lost).2.1 (txF l lost).2.2).1.f4⟩])
      omega
    · show (f (txF l lost).2.1 (txF l lost).2.2).2.2.1.length ≤ _; omega
theorem rdH_len (f : Option (List UInt8 → Bool → RdV)) (hf : ∀ g, f = some g → ∀ l lost, (g l lost).2.2.1.length ≤ l.length) (l : List UInt8) (lost : Bool) : (rdH f l lost).2.2.1.length ≤ l.length := by
  have h1 := after_len lost l
  have h2 := after_len (after lost (refNum l)).2 (after lost (refNum l)).1
  unfold rdH
  split
  · have := txF_len (after (after lost (refNum l)).2 (refNum (after lost (refNum l)).1)).2 (after (after lost (refNum l)).2 (refNum (after lost (refNum l)).1)).1
    show (txF _ _).2.1.length ≤ _; omega
  · split
    · have := txF_len (after lost (refNum l)).2 (after lost (refNum l)).1
      show (txF _ _).2.1.length ≤ _; omega
    · split
      · unfold rdD
        cases f with
        | none => show (after _ _).1.length ≤ _; omega
        | some g =>
          simp only
          split
          · show (after _ _).1.length ≤ _; omega
          · have := rdK_len (hf g rfl) (numOf (refNum (after lost (refNum l)).1)) (after (after lost (refNum l)).2 (refNum (after lost (refNum l)).1)).1 (after (after lost (refNum l)).2 (refNum (after lost (refNum l)).1)).2 []
            show (rdK _ _ _ _ _).2.2.1.length ≤ _; omega
      · exact h1
theorem rdP_len : ∀ (m : Nat) (l : List UInt8) (lost : Bool), (rdP m l lost).2.2.1.length ≤ l.length
  | 0, l, lost => rdH_len none (fun g h => by cases h) l lost
  | m + 1, l, lost => rdH_len _ (fun g h => by cases h; exact rdP_len m) l lost
theorem ok_f (s : ByteArray) (lost : Bool) : whiskref01_Reader_OK.f s lost = some (!lost, s, lost) := rfl
theorem rdK_ev {f : List UInt8 → Bool → RdV} (m : Nat) (hm : m ≤ 13) (hlen : ∀ l lost, (f l lost).2.2.1.length ≤ l.length) (hf : ∀ l lost, l.length ≤ 4611686018427387904 → Ev (fun k => whiskref09_read.f k (str l) lost (m : Int)) (tup (f l lost))) (c : Nat) (hc : c ≤ 2000) (a0 a3 : ByteArray) (a1 : Int) (a2 : Bool) :
    ∀ (n i : Nat) (l : List UInt8) (lost : Bool) (acc : List Tree), i + n = c → acc.length ≤ i → l.length ≤ 4611686018427387904 → Ev (fun k => whiskref09_read.l0 k ((m + 1 : Nat) : Int) (c : Int) (i : Int) (str l) lost a0 a1 a2 a3 acc) (a0, a1, a2, a3, (rdK f n l lost acc).1, (rdK f n l lost acc).2.1, str (rdK f n l lost acc).2.2.1, (rdK f n l lost acc).2.2.2)
  | 0, i, l, lost, acc, hi, ha, hl => by
    refine Ev.succ ((Ev.const _).congr (fun k => ?_) rfl)
    simp only [whiskref09_read.l0]
    rw [if_neg (by omega), ok_f]
    rfl
  | n + 1, i, l, lost, acc, hi, ha, hl => by
    have h1 := txF_len lost l
    have h2 := hlen (txF l lost).2.1 (txF l lost).2.2
    have h3 := hf (txF l lost).2.1 (txF l lost).2.2 (by omega)
    have e1 := text_f l lost hl
    simp only [rdK]
    generalize txF l lost = q at *
    generalize f q.2.1 q.2.2 = v at *
    have key : ∀ k, whiskref09_read.l0 (k + 1) ((m + 1 : Nat) : Int) (c : Int) (i : Int) (str l) lost a0 a1 a2 a3 acc = (whiskref09_read.f k (str q.2.1) q.2.2 (m : Int)).bind fun bt169 => (if bt169.2.2.2.2.2.1 = true then (whiskref09_read.l0 k ((m + 1 : Nat) : Int) (c : Int) ((i + 1 : Nat) : Int) bt169.2.2.2.2.2.2.1 bt169.2.2.2.2.2.2.2 a0 a1 a2 a3 (acc ++ [(⟨str q.1, bt169.2.1, bt169.2.2.1, bt169.2.2.2.1, bt169.2.2.2.2.1⟩ : Tree)])) else (some (a0, a1, a2, a3, acc, false, bt169.2.2.2.2.2.2.1, bt169.2.2.2.2.2.2.2))) := by
      intro k
      simp only [whiskref09_read.l0]
      rw [if_pos (by omega), e1]
      simp only [Option.bind_some]
      rw [wrap64_id ((m + 1 : Nat) - 1 : Int) (by omega) (by omega), show (((m + 1 : Nat) : Int) - 1) = (m : Int) by omega, show ((i : Int) + 1) = ((i + 1 : Nat) : Int) by omega, wrapu _ (by omega)]
      simp only [show acc.length < 1954687338268 by omega, if_true]
    by_cases hv : v.2.1 = true
    · rw [if_pos hv]
      have h4 := rdK_ev m hm hlen hf c hc a0 a3 a1 a2 n (i + 1) v.2.2.1 v.2.2.2 (acc ++ [⟨str q.1, v.1.f1, v.1.f2, v.1.f3, v.1.f4⟩]) (by omega) (by simp; omega) (by omega)
      refine Ev.succ (Ev.congr (h3.bind (g := fun k bt169 => (if bt169.2.2.2.2.2.1 = true then (whiskref09_read.l0 k ((m + 1 : Nat) : Int) (c : Int) ((i + 1 : Nat) : Int) bt169.2.2.2.2.2.2.1 bt169.2.2.2.2.2.2.2 a0 a1 a2 a3 (acc ++ [(⟨str q.1, bt169.2.1, bt169.2.2.1, bt169.2.2.2.1, bt169.2.2.2.2.1⟩ : Tree)])) else (some (a0, a1, a2, a3, acc, false, bt169.2.2.2.2.2.2.1, bt169.2.2.2.2.2.2.2)))) (h4.congr (fun k => ?_) rfl)) key rfl)
      exact if_pos hv
    · rw [if_neg hv]
      refine Ev.succ (Ev.congr (h3.bind (g := fun k bt169 => (if bt169.2.2.2.2.2.1 = true then (whiskref09_read.l0 k ((m + 1 : Nat) : Int) (c : Int) ((i + 1 : Nat) : Int) bt169.2.2.2.2.2.2.1 bt169.2.2.2.2.2.2.2 a0 a1 a2 a3 (acc ++ [(⟨str q.1, bt169.2.1, bt169.2.2.1, bt169.2.2.2.1, bt169.2.2.2.2.1⟩ : Tree)])) else (some (a0, a1, a2, a3, acc, false, bt169.2.2.2.2.2.2.1, bt169.2.2.2.2.2.2.2)))) ((Ev.const (a0, a1, a2, a3, acc, false, str v.2.2.1, v.2.2.2)).congr (fun k => ?_) rfl)) key rfl)
      exact if_neg hv
theorem kind_id (n : Nat) : wrap64 (Int.tmod (n : Int) 1000) = ((n % 1000 : Nat) : Int) := by
  rw [Int.tmod_eq_emod_of_nonneg (by omega), wrap64_id _ (by omega) (by omega)]
  omega
theorem beq_nat (n : Nat) : ((n : Int) == 1) = (n == 1) := by
  by_cases h : n = 1
  · subst h; rfl
  · rw [beq_eq_false_iff_ne.mpr h, beq_eq_false_iff_ne.mpr (by omega)]
theorem rdH_ev (f : Option (List UInt8 → Bool → RdV)) (m : Nat) (hm : m ≤ 13) (h0 : f = none → m = 0) (hlen : ∀ g, f = some g → ∀ l lost, (g l lost).2.2.1.length ≤ l.length)
    (hf : ∀ g, f = some g → 0 < m ∧ ∀ l lost, l.length ≤ 4611686018427387904 → Ev (fun k => whiskref09_read.f k (str l) lost ((m - 1 : Nat) : Int)) (tup (g l lost))) (l : List UInt8) (lost : Bool) (hl : l.length ≤ 4611686018427387904) : Ev (fun k => whiskref09_read.f k (str l) lost (m : Int)) (tup (rdH f l lost)) := by
  have a1 := after_len lost l
  have a2 := after_len (after lost (refNum l)).2 (after lost (refNum l)).1
  have e1 := num_f l lost hl
  unfold rdH
  generalize hA : after lost (refNum l) = A at *
  generalize numOf (refNum l) = n at *
  have e2 := num_f A.1 A.2 (by omega)
  have hcl := numOf_lt A.1
  obtain ⟨b, hb0, hb1, hb2, hb3⟩ : ∃ b, whiskref01_Reader_Num.f (str l) lost = some b ∧ b.1 = (n : Int) ∧ b.2.1 = str A.1 ∧ b.2.2 = A.2 := ⟨_, e1, rfl, rfl, rfl⟩
  clear e1 hA
  by_cases k1 : n % 1000 = 1
  · rw [if_pos k1]
    have k1' : ((n % 1000 : Nat) : Int) = 1 := by omega
    generalize after A.2 (refNum A.1) = B at *
    generalize numOf (refNum A.1) = c at *
    have e3 := text_f B.1 B.2 (by omega)
    generalize txF B.1 B.2 = q at *
    obtain ⟨d, hd0, hd1, hd2, hd3⟩ : ∃ d, whiskref01_Reader_Num.f (str A.1) A.2 = some d ∧ d.1 = (c : Int) ∧ d.2.1 = str B.1 ∧ d.2.2 = B.2 := ⟨_, e2, rfl, rfl, rfl⟩
    obtain ⟨x, hx0, hx1, hx2, hx3⟩ : ∃ x, whiskref01_Reader_Text.f (str B.1) B.2 = some x ∧ x.1 = str q.1 ∧ x.2.1 = str q.2.1 ∧ x.2.2 = q.2.2 := ⟨_, e3, rfl, rfl, rfl⟩
    clear e2 e3
    refine Ev.succ ((Ev.const _).congr (fun k => ?_) rfl)
    rw [whiskref09_read.f, hb0, Option.bind_some, hb1, kind_id, k1', if_pos rfl, hb2, hb3, hd0, Option.bind_some, hd1, hd2, hd3, hx0, Option.bind_some, hx1, hx2, hx3, ok_f, Option.bind_some, beq_nat]
    unfold tup
    by_cases hc : c ≤ 1
    · rw [if_pos (by omega), decide_eq_true hc, Bool.true_and]
    · rw [if_neg (by omega), decide_eq_false hc, Bool.false_and]
  rw [if_neg k1]
  have k1' : ¬ ((n % 1000 : Nat) : Int) = 1 := by omega
  by_cases k3 : n % 1000 = 3
  · rw [if_pos k3]
    have k3' : ((n % 1000 : Nat) : Int) = 3 := by omega
    have e3 := text_f A.1 A.2 (by omega)
    generalize txF A.1 A.2 = q at *
    obtain ⟨x, hx0, hx1, hx2, hx3⟩ : ∃ x, whiskref01_Reader_Text.f (str A.1) A.2 = some x ∧ x.1 = str q.1 ∧ x.2.1 = str q.2.1 ∧ x.2.2 = q.2.2 := ⟨_, e3, rfl, rfl, rfl⟩
    clear e2 e3
    refine Ev.succ ((Ev.const _).congr (fun k => ?_) rfl)
    rw [whiskref09_read.f, hb0, Option.bind_some, hb1, kind_id, if_neg k1', k3', if_pos rfl, hb2, hb3, hx0, Option.bind_some, hx1, hx2, hx3, ok_f, Option.bind_some]
    unfold tup
    rfl
  rw [if_neg k3]
  have k3' : ¬ ((n % 1000 : Nat) : Int) = 3 := by omega
  by_cases k2 : n % 1000 = 2
  · rw [if_pos k2]
    have k2' : ((n % 1000 : Nat) : Int) = 2 := by omega
    generalize after A.2 (refNum A.1) = B at *
    generalize numOf (refNum A.1) = c at *
    obtain ⟨d, hd0, hd1, hd2, hd3⟩ : ∃ d, whiskref01_Reader_Num.f (str A.1) A.2 = some d ∧ d.1 = (c : Int) ∧ d.2.1 = str B.1 ∧ d.2.2 = B.2 := ⟨_, e2, rfl, rfl, rfl⟩
    clear e2
    have key : ∀ k, whiskref09_read.f (k + 1) (str l) lost (m : Int) = if (m : Int) = 0 then whiskref09_read.j0 k m c true (str B.1) B.2 ⟨#[]⟩ 2 false ⟨#[]⟩ else if (c : Int) > 2000 then whiskref09_read.j0 k m c true (str B.1) B.2 ⟨#[]⟩ 2 false ⟨#[]⟩ else (whiskref01_Reader_OK.f (str B.1) B.2).bind fun bt160 => whiskref09_read.j0 k m c (!bt160.1) bt160.2.1 bt160.2.2 ⟨#[]⟩ 2 false ⟨#[]⟩ := by
      intro k
      rw [whiskref09_read.f, hb0, Option.bind_some, hb1, kind_id, if_neg k1', if_neg k3', k2', if_pos rfl, hb2, hb3, hd0, Option.bind_some, hd1, hd2, hd3]
    have stop : Ev (fun k => whiskref09_read.j0 k m c true (str B.1) B.2 ⟨#[]⟩ 2 false ⟨#[]⟩) (tup (⟨⟨#[]⟩, 2, false, ⟨#[]⟩, []⟩, false, B.1, B.2)) := by
      refine Ev.succ ((Ev.const _).congr (fun k => ?_) rfl)
      rw [whiskref09_read.j0, if_pos rfl]
      rfl
    unfold rdD
    cases f with
    | none =>
      refine Ev.succ (stop.congr (fun k => ?_) rfl)
      rw [key, if_pos (by rw [h0 rfl]; rfl)]
    | some g =>
      obtain ⟨hpos, hg⟩ := hf g rfl
      simp only
      by_cases hc : 2000 < c
      · rw [if_pos (.inl hc)]
        refine Ev.succ (stop.congr (fun k => ?_) rfl)
        rw [key, if_neg (by omega), if_pos (by omega)]
      by_cases hB : B.2 = true
      · rw [if_pos (.inr hB)]
        refine Ev.succ (stop.congr (fun k => ?_) rfl)
        rw [key, if_neg (by omega), if_neg (by omega), ok_f, hB]
        rfl
      · rw [if_neg (by intro h; rcases h with h | h; exact hc h; exact hB h)]
        have hB2 : B.2 = false := by simpa using hB
        have h5 := rdK_ev (f := g) (m - 1) (by omega) (hlen g rfl) hg c (by omega) ⟨#[]⟩ ⟨#[]⟩ 2 false c 0 B.1 B.2 [] (by omega) (by simp) (by omega)
        rw [show m - 1 + 1 = m by omega] at h5
        refine Ev.succ (Ev.congr (f := fun k => whiskref09_read.j0 k m c false (str B.1) B.2 ⟨#[]⟩ 2 false ⟨#[]⟩) (Ev.succ (h5.congr (fun k => ?_) rfl)) (fun k => ?_) rfl)
        · rw [whiskref09_read.j0, if_neg (by decide)]
          rfl
        · rw [key, if_neg (by omega), if_neg (by omega), ok_f, hB2]
          rfl
  · rw [if_neg k2]
    have k2' : ¬ ((n % 1000 : Nat) : Int) = 2 := by omega
    refine Ev.succ ((Ev.const _).congr (fun k => ?_) rfl)
    rw [whiskref09_read.f, hb0, Option.bind_some, hb1, kind_id, if_neg k1', if_neg k3', if_neg k2', hb2, hb3]
    rfl
theorem rdP_ev : ∀ (m : Nat), m ≤ 13 → ∀ (l : List UInt8) (lost : Bool), l.length ≤ 4611686018427387904 → Ev (fun k => whiskref09_read.f k (str l) lost (m : Int)) (tup (rdP m l lost))
  | 0, hm, l, lost, hl => rdH_ev none 0 hm (fun _ => rfl) (fun g h => by cases h) (fun g h => by cases h) l lost hl
  | m + 1, hm, l, lost, hl => rdH_ev (some (rdP m)) (m + 1) hm (fun h => by cases h) (fun g h => by cases h; exact rdP_len m) (fun g h => by cases h; exact ⟨by omega, fun l lost hl => rdP_ev m (by omega) l lost hl⟩) l lost hl
end Go.Proofs.Ytnnpfahlfmeakaa

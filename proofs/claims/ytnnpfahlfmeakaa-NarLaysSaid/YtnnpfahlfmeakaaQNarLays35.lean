import Derived.Test.YtnnpfahlfmeakaaQNarLays14
import Derived.Test.YtnnpfahlfmeakaaQNarLays25
import Derived.Test.YtnnpfahlfmeakaaQNarLays34
namespace Go.Proofs.Ytnnpfahlfmeakaa
open Go.RowKit Go.Proofs.Ytnnpfahlfmeakaa.PB Go.Proofs.YtnnpfahlfmeakaaW.PrintWords Go.Proofs.YtnnpfahlfmeakaaW.PrintLast
set_option linter.unusedVariables false
set_option linter.unusedSimpArgs false
theorem bind_id {α : Type} (x : Option α) : (x.bind fun t => some t) = x := by cases x <;> rfl
theorem refPutNum_ev (s : ByteArray) (n : Nat) (hn : n < 18446744073709551616) (hs : s.size ≤ 9223372036854775000) : Ev (fun k => whiskref01_PutNum.f k s (n : Int)) (s ++ encNum n) :=
  ⟨11, fun k hk => at_rounds (g := fun k => whiskref01_PutNum.f k s (n : Int)) (fun k => whiskref01_PutNum.mono s n k) hk (refPutNum_eq s n hn hs)⟩
theorem refPutText_f (s t : ByteArray) (h : s.size + t.size ≤ 9223372036854775000) : whiskref01_PutText.f s t = some (s ++ (encNum t.size ++ t)) := by
  unfold whiskref01_PutText.f
  rw [if_pos h]; unfold putText; rw [ByteArray.append_assoc]
theorem wrapu (n : Nat) (h : n < 18446744073709551616) : IntKind.u64.wrap (n : Int) = (n : Int) := by
  rw [IntKind.wrap_u64]; omega
theorem kidsB_drop (ks : List Tree) (i : Nat) (h : i < ks.length) : kidsB (ks.drop i) = (encNum ks[i].f0.size ++ ks[i].f0) ++ (nodeB ks[i] ++ kidsB (ks.drop (i + 1))) := by
  rw [List.drop_eq_getElem_cons h]; simp only [kidsB]
theorem refNode_loop (t : Tree) (hl : t.f4.length ≤ 1954687338212)
    (ih : ∀ x ∈ t.f4, ∀ s : ByteArray, s.size + (nodeB x).size ≤ 9223372036854770000 → Ev (fun k => whiskref09_node.f k s x.f0 x.f1 x.f2 x.f3 x.f4) (s ++ nodeB x)) :
    ∀ (n i : Nat) (s : ByteArray), t.f4.length - i = n → i ≤ t.f4.length → s.size + (kidsB (t.f4.drop i)).size ≤ 9223372036854770000 → Ev (fun k => whiskref09_node.l0 k s (i : Int) t.f0 t.f1 t.f2 t.f3 t.f4) (s ++ kidsB (t.f4.drop i))
  | 0, i, s, hn, hi, hs => by
    refine Ev.succ ((Ev.const _).congr (fun k => ?_) rfl)
    simp only [whiskref09_node.l0]
    rw [if_neg (by omega), List.drop_of_length_le (by omega)]
    simp [kidsB]
  | n + 1, i, s, hn, hi, hs => by
    have h1 : i < t.f4.length := by omega
    rw [kidsB_drop _ _ h1] at hs ⊢
    simp only [ByteArray.size_append] at hs
    have e1 := refPutText_f s t.f4[i].f0 (by omega)
    have h2 := ih t.f4[i] (List.getElem_mem h1) (s ++ (encNum t.f4[i].f0.size ++ t.f4[i].f0)) (by simp only [ByteArray.size_append]; omega)
    have h3 := refNode_loop t hl ih n (i + 1) (s ++ (encNum t.f4[i].f0.size ++ t.f4[i].f0) ++ nodeB t.f4[i]) (by omega) (by omega) (by simp only [ByteArray.size_append]; omega)
    refine Ev.succ (Ev.congr (h2.bind (g := fun k q => whiskref09_node.l0 k q ((i + 1 : Nat) : Int) t.f0 t.f1 t.f2 t.f3 t.f4) h3) (fun k => ?_) ?_)
    · simp only [whiskref09_node.l0]
      rw [if_pos (by omega), if_pos (by omega), rd_at t.f4 i h1, wrap64_id ((i : Int) + 1) (by omega) (by omega), e1]
      rfl
    · simp only [ByteArray.append_assoc]
theorem nodeB_eq (t : Tree) : nodeB t = encNum t.f1.toNat ++ (if t.f1 = 1 then encNum (if t.f2 then 1 else 0) ++ (encNum t.f3.size ++ t.f3) else if t.f1 = 3 then encNum t.f3.size ++ t.f3 else encNum t.f4.length ++ kidsB t.f4) := by cases t; simp only [nodeB]
theorem refNode_ev (t : Tree) (hf : Fit t) : mayP t = true → ∀ s : ByteArray, s.size + (nodeB t).size ≤ 9223372036854770000 → Ev (fun k => whiskref09_node.f k s t.f0 t.f1 t.f2 t.f3 t.f4) (s ++ nodeB t) := by
  induction hf with
  | mk t h0 h1 h3 h4 hk ih =>
    intro hm s hs
    have hkind : t.f1 = 1 ∨ t.f1 = 2 ∨ t.f1 = 3 := by
      obtain ⟨nm, kd, ex, dt, ks⟩ := t
      by_cases k1 : kd = 1
      · exact .inl k1
      by_cases k2 : kd = 2
      · exact .inr (.inl k2)
      by_cases k3 : kd = 3
      · exact .inr (.inr k3)
      simp [mayP, k1, k2, k3] at hm
    have ihk : ∀ x ∈ t.f4, ∀ s : ByteArray, s.size + (nodeB x).size ≤ 9223372036854770000 → Ev (fun k => whiskref09_node.f k s x.f0 x.f1 x.f2 x.f3 x.f4) (s ++ nodeB x) := fun x hx => ih x hx ((mayP_kids t hm).2 x hx)
    rw [nodeB_eq] at hs ⊢
    rcases hkind with e | e | e
    · rw [e] at hs ⊢
      simp only [if_true, ByteArray.size_append, Int.reduceToNat] at hs ⊢
      have a1 := refPutNum_ev s 1 (by decide) (by omega)
      have a2 := refPutNum_ev (s ++ encNum 1) (if t.f2 = true then 1 else 0) (by split <;> decide) (by simp only [ByteArray.size_append]; omega)
      have a3 := refPutText_f (s ++ encNum 1 ++ encNum (if t.f2 = true then 1 else 0)) t.f3 (by simp only [ByteArray.size_append]; omega)
      refine Ev.succ (Ev.congr (a1.bind (g := fun k q => (whiskref01_PutNum.f k q ((if t.f2 = true then 1 else 0 : Nat) : Int)).bind fun q2 => whiskref01_PutText.f q2 t.f3) (a2.bind (g := fun k q2 => whiskref01_PutText.f q2 t.f3) ((Ev.const _).congr (fun k => a3) rfl))) (fun k => ?_) ?_)
      · simp only [whiskref09_node.f]
        rw [show IntKind.u64.wrap 1 = ((1 : Nat) : Int) from wrapu 1 (by decide)]
        cases t.f2
        · simp only [Bool.false_eq_true, if_false, if_true, bind_id]; rfl
        · simp only [if_true, bind_id]; rfl
      · simp only [ByteArray.append_assoc]
    · rw [e] at hs ⊢
      simp only [Int.reduceEq, if_false, ByteArray.size_append, Int.reduceToNat] at hs ⊢
      have a1 := refPutNum_ev s 2 (by decide) (by omega)
      have a2 := refPutNum_ev (s ++ encNum 2) t.f4.length (by omega) (by simp only [ByteArray.size_append]; omega)
      have a3 := refNode_loop t h4 ihk t.f4.length 0 (s ++ encNum 2 ++ encNum t.f4.length) (by omega) (by omega) (by simp only [ByteArray.size_append, List.drop_zero]; omega)
      rw [List.drop_zero] at a3
      refine Ev.succ (Ev.congr (a1.bind (g := fun k q => (whiskref01_PutNum.f k q (t.f4.length : Int)).bind fun q2 => whiskref09_node.l0 k q2 0 t.f0 t.f1 t.f2 t.f3 t.f4) (a2.bind (g := fun k q2 => whiskref09_node.l0 k q2 0 t.f0 t.f1 t.f2 t.f3 t.f4) a3)) (fun k => ?_) ?_)
      · simp only [whiskref09_node.f]
        rw [e, show IntKind.u64.wrap 2 = ((2 : Nat) : Int) from wrapu 2 (by decide), wrapu _ (by omega)]
        simp only [Int.reduceEq, if_false]
      · simp only [ByteArray.append_assoc]
    · rw [e] at hs ⊢
      simp only [Int.reduceEq, if_true, if_false, ByteArray.size_append, Int.reduceToNat] at hs ⊢
      have a1 := refPutNum_ev s 3 (by decide) (by omega)
      have a3 := refPutText_f (s ++ encNum 3) t.f3 (by simp only [ByteArray.size_append]; omega)
      refine Ev.succ (Ev.congr (a1.bind (g := fun k q => whiskref01_PutText.f q t.f3) ((Ev.const _).congr (fun k => a3) rfl)) (fun k => ?_) ?_)
      · simp only [whiskref09_node.f]
        rw [show IntKind.u64.wrap 3 = ((3 : Nat) : Int) from wrapu 3 (by decide)]
        simp only [Int.reduceEq, if_false, if_true, bind_id]
      · simp only [ByteArray.append_assoc]
theorem refEncode_ev (t : Tree) (hf : Fit t) (hz : Sized t) : Ev (fun k => whiskref09_Encode.f k t.f0 t.f1 t.f2 t.f3 t.f4) (encP t) := by
  have hc := refCheck_ev t hf hz
  by_cases h0 : checkP t = 0
  · obtain ⟨b1, b2, b3, b4, b5⟩ := checkP_ok t h0
    have b6 := nodeB_size t hf b3
    have b7 := magicB_size
    have a1 := refPutText_f ⟨#[]⟩ ⟨#[119, 104, 105, 115, 107, 45, 116, 114, 101, 101]⟩ (by decide)
    rw [show (⟨#[]⟩ : ByteArray) ++ (encNum (⟨#[119, 104, 105, 115, 107, 45, 116, 114, 101, 101]⟩ : ByteArray).size ++ (⟨#[119, 104, 105, 115, 107, 45, 116, 114, 101, 101]⟩ : ByteArray)) = magicB from ByteArray.empty_append] at a1
    have a2 := refNode_ev t hf b3 magicB (by omega)
    refine Ev.congr (hc.bind (g := fun k c => if c = 0 then ((whiskref09_node.f k magicB t.f0 t.f1 t.f2 t.f3 t.f4).bind fun t213 => (if (t213.size : Int) > 60000 then (some ((⟨#[]⟩ : ByteArray), 3)) else (some (t213, 0)))) else some ((⟨#[]⟩ : ByteArray), c)) (u := encP t) ?_) (fun k => ?_) rfl
    · refine Ev.congr (a2.bind (g := fun k t213 => (if (t213.size : Int) > 60000 then (some ((⟨#[]⟩ : ByteArray), 3)) else (some (t213, 0)))) (u := encP t) ((Ev.const _).congr (fun k => ?_) rfl)) (fun k => ?_) rfl
      · unfold encP
        rw [if_pos h0]
        by_cases h6 : 60000 < (magicB ++ nodeB t).size
        · rw [if_pos (by omega), if_pos h6]
        · rw [if_neg (by omega), if_neg h6]
      · rw [if_pos h0]
    · simp only [whiskref09_Encode.f, a1, Option.bind_some]
  · refine Ev.congr (hc.bind (g := fun k c => if c = 0 then ((whiskref01_PutText.f (⟨#[]⟩ : ByteArray) (⟨#[119, 104, 105, 115, 107, 45, 116, 114, 101, 101]⟩ : ByteArray)).bind fun t212 => ((whiskref09_node.f k t212 t.f0 t.f1 t.f2 t.f3 t.f4).bind fun t213 => (if (t213.size : Int) > 60000 then (some ((⟨#[]⟩ : ByteArray), 3)) else (some (t213, 0))))) else some ((⟨#[]⟩ : ByteArray), c)) (u := encP t) ((Ev.const _).congr (fun k => ?_) rfl)) (fun k => ?_) rfl
    · rw [if_neg h0]; unfold encP; rw [if_neg h0]
    · simp only [whiskref09_Encode.f]
end Go.Proofs.Ytnnpfahlfmeakaa

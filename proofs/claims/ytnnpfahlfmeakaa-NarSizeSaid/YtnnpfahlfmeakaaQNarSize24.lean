import Derived.Test.YtnnpfahlfmeakaaQNarSize15
import Derived.Test.YtnnpfahlfmeakaaQNarSize23
namespace Go.Proofs.Ytnnpfahlfmeakaa.PB
open Go.RowKit Go.Proofs.Ytnnpfahlfmeakaa Go.Proofs.YtnnpfahlfmeakaaW.PrintWords Go.Proofs.YtnnpfahlfmeakaaW.PrintLast
set_option linter.unusedVariables false
set_option linter.unusedSimpArgs false
theorem ret_enc {p : ByteArray × Int} {a : ByteArray} {b : Int} (h : p = (a, b)) : Ending.returned (.tuple #[.string a, .int .i64 b]) = .returned (.tuple #[.string p.1, .int .i64 p.2]) := by rw [h]
theorem encNum_le (n : Nat) (h : n < 18446744073709551616) : (encNum n).size ≤ 10 := by
  rw [encNum_size]; have := nd_le n h; omega
theorem nodeB_size (t : Tree) (hf : Fit t) : mayP t = true → (nodeB t).size + 66 ≤ 166 * sizeN t + sizeB t := by
  induction hf with
  | mk t h0 h1 h3 h4 hk ih =>
    intro hm
    have hkid : ∀ (p : Option ByteArray) (ks : List Tree), mayKids p ks = true → (∀ x ∈ ks, mayP x = true → (nodeB x).size + 66 ≤ 166 * sizeN x + sizeB x) → (∀ x ∈ ks, Fit x) → (kidsB ks).size ≤ 166 * sizeNs ks + sizeBs ks := by
      intro p ks
      induction ks generalizing p with
      | nil => intro _ _ _; simp [kidsB]
      | cons x r ihr =>
        intro h hx hfx
        simp only [mayKids, Bool.and_eq_true] at h
        have a1 := hx x (by simp) h.1.1.2
        have a2 := ihr _ h.2 (fun y hy => hx y (by simp [hy])) (fun y hy => hfx y (by simp [hy]))
        have a3 : x.f0.size ≤ 56 := by
          have := h.1.1.1
          simp only [nameOk, Bool.and_eq_true, decide_eq_true_eq] at this
          omega
        have a4 := encNum_le x.f0.size (by omega)
        have a5 : 1 ≤ sizeN x := by rw [sizeN_eq]; omega
        simp only [kidsB, ByteArray.size_append, sizeNs, sizeBs]
        omega
    obtain ⟨nm, kd, ex, dt, ks⟩ := t
    simp only [sizeN, sizeB]
    dsimp only at h0 h1 h3 h4 hk ih
    have e1 := encNum_le dt.size (by omega)
    have e2 := encNum_le ks.length (by omega)
    by_cases k1 : kd = 1
    · subst k1
      have hn : ks = [] := by simpa [mayP] using hm
      subst hn
      have e3 := encNum_le (if ex = true then 1 else 0) (by cases ex <;> decide)
      have e4 := encNum_le 1 (by decide)
      simp only [nodeB, if_true, ByteArray.size_append, Int.reduceToNat, sizeNs, sizeBs]
      omega
    by_cases k2 : kd = 2
    · subst k2
      have hn : mayKids none ks = true := by simp [mayP] at hm; exact hm.2
      have e4 := encNum_le 2 (by decide)
      have e5 := hkid none ks hn ih hk
      simp only [nodeB, ByteArray.size_append, Int.reduceToNat, Int.reduceEq, if_false]
      omega
    by_cases k3 : kd = 3
    · subst k3
      have hn : ks = [] := by simp [mayP] at hm; exact hm.1.1.1.1
      subst hn
      have e4 := encNum_le 3 (by decide)
      simp only [nodeB, ByteArray.size_append, Int.reduceToNat, Int.reduceEq, if_false, if_true, sizeNs, sizeBs]
      omega
    simp [mayP, k1, k2, k3] at hm
def magicB : ByteArray := textB ⟨#[119, 104, 105, 115, 107, 45, 116, 114, 101, 101]⟩
/-- A tree's bytes, or what stands against them. -/
def encP (t : Tree) : ByteArray × Int := if checkP t = 0 then (if 60000 < (magicB ++ nodeB t).size then (⟨#[]⟩, 3) else (magicB ++ nodeB t, 0)) else (⟨#[]⟩, checkP t)
theorem magic_calls (w : World) : Calls Try.prog 21 #[.string ⟨#[]⟩, .string ⟨#[119, 104, 105, 115, 107, 45, 116, 114, 101, 101]⟩] w fun e w' => e = .returned (.string magicB) ∧ Below w.heap.size w w' := by
  have h := wirePutText_calls ⟨#[]⟩ ⟨#[119, 104, 105, 115, 107, 45, 116, 114, 101, 101]⟩ (by decide) w
  rwa [show (⟨#[]⟩ : ByteArray) ++ textB ⟨#[119, 104, 105, 115, 107, 45, 116, 114, 101, 101]⟩ = magicB from ByteArray.empty_append] at h
theorem magicB_size : magicB.size ≤ 30 := by
  unfold magicB textB
  rw [ByteArray.size_append]
  have := encNum_le (⟨#[119, 104, 105, 115, 107, 45, 116, 114, 101, 101]⟩ : ByteArray).size (by decide)
  have e : (⟨#[119, 104, 105, 115, 107, 45, 116, 114, 101, 101]⟩ : ByteArray).size = 10 := rfl
  omega
theorem checkP_ok (t : Tree) (h : checkP t = 0) : depthP t ≤ 12 ∧ t.f0.data.toList = [] ∧ mayP t = true ∧ sizeN t ≤ 2000 ∧ sizeB t ≤ 100000 := by
  unfold checkP at h
  split at h
  · cases h
  · split at h
    · rename_i h1 h2
      split at h
      · cases h
      · rename_i h3
        exact ⟨by omega, h2.1, h2.2, by omega, by omega⟩
    · cases h
set_option maxRecDepth 100000 in
set_option maxHeartbeats 1000000 in
theorem encode_any (t : Tree) (hf : Fit t) (hz : Sized t) (A : Option Addr) (c : Nat) (w : World) (hr : Kd.C k24 w A t.f4.length t.f4) (hl : t.f4.length ≤ c) :
    Calls Try.prog 10 #[.agg #[.string t.f0, .int .i64 t.f1, .bool t.f2, .string t.f3, .slice A t.f4.length c]] w fun e w' => e = .returned (.tuple #[.string (encP t).1, .int .i64 (encP t).2]) ∧ Below w.heap.size w w' := by
  have hu := Try.underlying24
  have hu2 := Try.underlying47
  obtain ⟨k0, hk0⟩ := check_ev t hf hz
  have HCK := Aside0.mk (fun W (h : Kd.C k24 W A t.f4.length t.f4) => tree_Check.calls k0 t.f0 t.f1 t.f2 t.f3 A c t.f4 (checkP t) W h hl (hk0 k0 (Nat.le_refl _)))
  have HN := Aside0.mk (fun (h : checkP t = 0) => clerkNode_any t hf (checkP_ok t h).2.2.1)
  have HZ := Aside0.mk (fun (h : checkP t = 0) => nodeB_size t hf (checkP_ok t h).2.2.1)
  have HOK := Aside0.mk (checkP_ok t)
  have HPT := Aside0.mk (fun W => magic_calls W)
  obtain ⟨mb, hmb⟩ : ∃ mb, magicB = mb := ⟨_, rfl⟩
  have HMS := Aside0.mk (hmb ▸ magicB_size)
  have HR := Aside0.mk hr
  have HL := Aside0.mk hl
  clear hf hz hk0 hr hl
  obtain ⟨nm, kd, ex, dt, ks⟩ := t
  dsimp only at *
  have hE : encP ⟨nm, kd, ex, dt, ks⟩ = encP ⟨nm, kd, ex, dt, ks⟩ := rfl
  conv at hE => rhs; unfold encP
  rw [hmb] at HPT hE
  clear hmb
  generalize ht : (⟨nm, kd, ex, dt, ks⟩ : Tree) = t at *
  have HE := Aside0.mk hE
  have HT := Aside0.mk ht
  clear hE ht
  by_cases hc0 : checkP t = 0
  · have HN' := Aside0.mk (HN.out hc0)
    have HZ' := Aside0.mk (HZ.out hc0)
    have HOK' := Aside0.mk (HOK.out hc0)
    rw [hc0] at HCK
    have HC0 := Aside0.mk hc0
    clear HN HZ HOK hc0
    go_enter Try.func10, Try.ntmps10
    go_wp2_with fail
    have X1 := Aside0.mk (heap_alloc_new w (.cells #[.string nm, .int .i64 kd, .bool ex, .string dt, .slice A ks.length c] 24))
    have B1 := Aside0.mk (below_alloc (Below.refl _ w) (.cells #[.string nm, .int .i64 kd, .bool ex, .string dt, .slice A ks.length c] 24))
    generalize w.alloc (.cells #[.string nm, .int .i64 kd, .bool ex, .string dt, .slice A ks.length c] 24) = W1 at X1 B1 ⊢
    refine (HCK.out W1 (Kd.C_below HR.out B1.out)).mono ?_
    rintro e w1 ⟨rfl, hb⟩
    have X2 := Aside0.mk (blk_below X1.out hb)
    have B2 := Aside0.mk (below_then B1.out B1.out.size hb)
    clear hb X1 B1
    go_wp2_with (go_at_call 21; refine (HPT.out _).mono ?_; rintro e w2 ⟨rfl, hb⟩; have X3 := Aside0.mk (blk_below X2.out hb); have B3 := Aside0.mk (below_then B2.out B2.out.size hb); clear hb; have X4 := blk_below X3.out (below_alloc (Below.refl _ w2) (.cells #[.string mb] 47)); have r0 := (blk_cell X4 0).trans (rfl : _ = some (Value.string nm)); have r1 := (blk_cell X4 1).trans (rfl : _ = some (Value.int .i64 kd)); have r2 := (blk_cell X4 2).trans (rfl : _ = some (Value.bool ex)); have r3 := (blk_cell X4 3).trans (rfl : _ = some (Value.string dt)); have r4 := (blk_cell X4 4).trans (rfl : _ = some (Value.slice A ks.length c)); clear X4)
    have B4 := Aside0.mk (below_then B3.out B3.out.size (below_alloc (Below.refl _ w2) (.cells #[.string mb] 47)))
    have CL := Aside0.mk (show ClerkAt (w2.alloc (.cells #[.string mb] 47)) w2.heap.size mb from heap_alloc_new w2 _)
    have hg := B3.out.size
    clear r0 r1 r2 r3 r4
    generalize w2.alloc (.cells #[.string mb] 47) = W4 at B4 CL ⊢
    have NC := HN'.out A c w2.heap.size mb w W4 (by rw [← HT.out]; exact HR.out) (by rw [← HT.out]; exact HL.out) hg CL.out B4.out (by have := HZ'.out; have := HMS.out; have := HOK'.out; omega)
    rw [← HT.out] at NC
    dsimp only at NC
    rw [HT.out] at NC
    refine NC.mono ?_
    clear NC hg
    rintro e w5 ⟨rfl, hk1, hb1⟩
    have c5 : w5.cell? ⟨w2.heap.size, 0, none⟩ = some (.string (mb ++ nodeB t)) := (blk_cell hk1 0).trans rfl
    have B5 := Aside0.mk hb1
    clear hk1 hb1
    generalize mb ++ nodeB t = out at *
    have hE := HE.out
    rw [if_pos HC0.out] at hE
    by_cases h6 : 60000 < out.size
    · rw [if_pos h6] at hE
      have HE2 := Aside0.mk hE
      have h6' : (60000 : Int) < (out.size : Int) := by omega
      clear hE
      go_wp2
      go_ret2
      exact ⟨ret_enc HE2.out, B5.out⟩
    · rw [if_neg h6] at hE
      have HE2 := Aside0.mk hE
      have h6' : (out.size : Int) ≤ 60000 := by omega
      clear hE
      go_wp2
      go_ret2
      exact ⟨ret_enc HE2.out, B5.out⟩
  · have HC0 := Aside0.mk hc0
    generalize checkP t = cp at *
    have hb : (cp != 0) = true := by simpa using hc0
    have hb' : (cp == 0) = false := by simpa using hc0
    clear HN HZ HOK hc0
    go_enter Try.func10, Try.ntmps10
    go_wp2_with fail
    have X1 := Aside0.mk (heap_alloc_new w (.cells #[.string nm, .int .i64 kd, .bool ex, .string dt, .slice A ks.length c] 24))
    have B1 := Aside0.mk (below_alloc (Below.refl _ w) (.cells #[.string nm, .int .i64 kd, .bool ex, .string dt, .slice A ks.length c] 24))
    generalize w.alloc (.cells #[.string nm, .int .i64 kd, .bool ex, .string dt, .slice A ks.length c] 24) = W1 at X1 B1 ⊢
    refine (HCK.out W1 (Kd.C_below HR.out B1.out)).mono ?_
    rintro e w1 ⟨rfl, hb⟩
    have X2 := Aside0.mk (blk_below X1.out hb)
    have B2 := Aside0.mk (below_then B1.out B1.out.size hb)
    clear hb X1 B1
    go_wp2
    go_ret2
    exact ⟨ret_enc (HE.out.trans (if_neg HC0.out)), B2.out⟩
open Classical in
noncomputable def nar_Encode.f (a0 : ByteArray) (a1 : Int) (a2 : Bool) (a3 : ByteArray) (l : List S24) : Option (ByteArray × Int) := if Fit ⟨a0, a1, a2, a3, l⟩ ∧ Sized ⟨a0, a1, a2, a3, l⟩ then some (encP ⟨a0, a1, a2, a3, l⟩) else none
theorem nar_Encode.calls (a0_0 : ByteArray) (a0_1 : Int) (a0_2 : Bool) (a0_3 : ByteArray) (A0_4 : Option Addr) (c0_4 : Nat) (l0_4 : List S24) (r0 : ByteArray) (r1 : Int) (w : World) (hr0_4 : Kd.C k24 w A0_4 l0_4.length l0_4) (hc0_4 : l0_4.length ≤ c0_4) (h : nar_Encode.f a0_0 a0_1 a0_2 a0_3 l0_4 = some (r0, r1)) :
    Calls Try.prog 10 #[.agg #[.string a0_0, .int .i64 a0_1, .bool a0_2, .string a0_3, .slice A0_4 l0_4.length c0_4]] w fun e w' => e = .returned (.tuple #[.string r0, .int .i64 r1]) ∧ Below w.heap.size w w' := by
  unfold nar_Encode.f at h
  split at h
  · rename_i hf
    have he := Option.some.inj h
    have := encode_any ⟨a0_0, a0_1, a0_2, a0_3, l0_4⟩ hf.1 hf.2 A0_4 c0_4 w hr0_4 hc0_4
    rw [he] at this
    exact this
  · cases h
end Go.Proofs.Ytnnpfahlfmeakaa.PB

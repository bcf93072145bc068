import Derived.Test.YtnnpfahlfmeakaaQNarSize23
import Derived.Test.YtnnpfahlfmeakaaQNarSize24
import Derived.Test.YtnnpfahlfmeakaaQNarSize29
namespace Go.Proofs.Ytnnpfahlfmeakaa.PB
open Go.RowKit Go.Proofs.Ytnnpfahlfmeakaa Go.Proofs.YtnnpfahlfmeakaaW.PrintWords Go.Proofs.YtnnpfahlfmeakaaW.PrintLast
set_option linter.unusedVariables false
set_option linter.unusedSimpArgs false
def zeroT : Tree := ⟨⟨#[]⟩, 0, false, ⟨#[]⟩, []⟩
/-- What a reader's struct alone tells. -/
def RdTop (w : World) (b : Nat) (l : List UInt8) (lost : Bool) : Prop := ∃ A c, w.heap[b]? = some (.cells #[.slice A l.length c, .bool lost] 74 (0, 0))
theorem ret_boolN {a b : Bool} (h : a = b) : Ending.returned (.bool a) = .returned (.bool b) := by rw [h]
set_option maxRecDepth 100000 in
theorem ok_top (b : Nat) (l : List UInt8) (lost : Bool) (w : World) (h : RdTop w b l lost) :
    Calls Try.prog 54 #[.pointer (some ⟨b, 0, none⟩)] w fun e w' => e = .returned (.bool (!lost)) ∧ w = w' := by
  obtain ⟨A, c, hb⟩ := h
  have hcell1 : w.cell? ⟨b, 1, none⟩ = some (.bool lost) := (blk_cell hb 1).trans rfl
  clear hb
  go_enter Try.func54, Try.ntmps54
  go_wp2
  go_ret
  exact ⟨rfl, rfl⟩
set_option maxRecDepth 100000 in
theorem end_top (b : Nat) (l : List UInt8) (lost : Bool) (w : World) (h : RdTop w b l lost) :
    Calls Try.prog 31 #[.pointer (some ⟨b, 0, none⟩)] w fun e w' => e = .returned (.bool (!lost && l.isEmpty)) ∧ w = w' := by
  have HO := Aside0.mk (ok_top b l lost w h)
  obtain ⟨A, c, hb⟩ := h
  have hcell1 : w.cell? ⟨b, 0, none⟩ = some (.slice A l.length c) := (blk_cell hb 0).trans rfl
  clear hb
  cases lost with
  | true =>
    go_enter Try.func31, Try.ntmps31
    go_wp2_with (go_at_call 54; refine HO.out.mono ?_; rintro e w1 ⟨rfl, rfl⟩)
    go_ret
    exact ⟨rfl, rfl⟩
  | false =>
    go_enter Try.func31, Try.ntmps31
    go_wp2_with (go_at_call 54; refine HO.out.mono ?_; rintro e w1 ⟨rfl, rfl⟩)
    go_ret
    refine ⟨ret_boolN ?_, rfl⟩
    cases l <;> simp <;> omega
open Classical in
/-- The tree whose bytes these are. -/
noncomputable def decodeP (s : ByteArray) : Option Tree :=
  (textR s.data.toList).bind fun p => if (str p.1).toList = ([119, 104, 105, 115, 107, 45, 116, 114, 101, 101] : List UInt8) then (nodeR 13 p.2).bind fun t => if t.2 = [] ∧ (encP t.1).2 = 0 ∧ (encP t.1).1.toList = s.toList then some t.1 else none else none
/-- What Decode hands back. -/
noncomputable def decodeR (s : ByteArray) : Tree × Int := match decodeP s with
  | some t => (t, 0)
  | none => (zeroT, 4)
def DecPost (w : World) (r : Tree × Int) (e : Ending) (w' : World) : Prop := ∃ v, e = .returned (.tuple #[.agg #[.string r.1.f0, .int .i64 r.1.f1, .bool r.1.f2, .string r.1.f3, v], .int .i64 r.2]) ∧ Kd.R k24 24 w' w.heap.size (fun _ => True) v r.1.f4 ∧ Below w.heap.size w w'
theorem dec_results {p0 p1 : Nat} {a0 a3 : ByteArray} {a1 ee : Int} {a2 : Bool} {A : Option Addr} {n c : Nat} {w6 : World} (tmps : Array Value) (h2 : tmps.getD 2 undef = .pointer (some ⟨p0, 0, none⟩)) (h3 : tmps.getD 3 undef = .pointer (some ⟨p1, 0, none⟩)) (hn : NAt w6 p0 a0 a1 a2 a3 (.slice A n c)) (he : w6.heap[p1]? = some (.cells #[.int .i64 ee] 26 (0, 0))) :
    (results Try.f13 tmps).run Try.prog w6 = .ok (.tuple #[.agg #[.string a0, .int .i64 a1, .bool a2, .string a3, .slice A n c], .int .i64 ee]) w6 := by
  have e2 : tmps[2]?.getD undef = .pointer (some ⟨p0, 0, none⟩) := by simpa using h2
  have e3 : tmps[3]?.getD undef = .pointer (some ⟨p1, 0, none⟩) := by simpa using h3
  have c3 : w6.cell? ⟨p1, 0, none⟩ = some (.int .i64 ee) := (blk_cell he 0).trans rfl
  have l2 : (loadVar 26 ⟨p1, 0, none⟩).run Try.prog w6 = .ok (.int .i64 ee) w6 := by simp [loadVar, isAgg, run_underlying Try.underlying26, c3, Result.andThen]
  have l1 : (loadVar 24 ⟨p0, 0, none⟩).run Try.prog w6 = .ok (.agg #[.string a0, .int .i64 a1, .bool a2, .string a3, .slice A n c]) w6 := run_loadVar_row w6 p0 24 24 _ _ _ hn Try.underlying24 rfl (by kernel_rfl)
  simp [results, Try.results13, e2, e3, asAddr, l1, l2, Result.andThen]
set_option maxRecDepth 100000 in
set_option maxHeartbeats 4000000 in
theorem decode_any (s : ByteArray) (hs : s.size ≤ 140737488351232) (hfit : ∀ p t, textR s.data.toList = some p → nodeR 13 p.2 = some t → Fit t.1 ∧ Sized t.1) (w : World) :
    Calls Try.prog 13 #[.string s] w (DecPost w (decodeR s)) := by
  have hu24 := Try.underlying24
  have hu57 := Try.underlying57
  have hmf : ∀ (fn : Fn) (first cap : Array Value) (W : World), (Instr.makeFunc fn first cap).run Try.prog W = .ok (.func fn first cap) W := fun _ _ _ _ => rfl
  obtain ⟨R, hR⟩ : ∃ R, DecPost w (decodeR s) = R := ⟨_, rfl⟩
  rw [hR]
  have HPOST := Aside0.mk hR
  have HF := Aside0.mk hfit
  have HNR := Aside0.mk (fun W => newReader_any s hs W)
  clear hR hfit
  go_enter_defers Try.func13, Try.ntmps13
  go_wp2_with fail
  have A1 := below_alloc (Below.refl _ w) (.cells #[.string ⟨#[]⟩, .int .i64 0, .bool false, .string ⟨#[]⟩, .slice none 0 0] 24)
  have A2 := below_alloc (Below.refl _ (w.alloc (.cells #[.string ⟨#[]⟩, .int .i64 0, .bool false, .string ⟨#[]⟩, .slice none 0 0] 24))) (.cells #[.int .i64 0] 26)
  have N2 := Aside0.mk (show NAt ((w.alloc (.cells #[.string ⟨#[]⟩, .int .i64 0, .bool false, .string ⟨#[]⟩, .slice none 0 0] 24)).alloc (.cells #[.int .i64 0] 26)) w.heap.size ⟨#[]⟩ 0 false ⟨#[]⟩ (.slice none 0 0) from blk_below (heap_alloc_new w (.cells #[.string ⟨#[]⟩, .int .i64 0, .bool false, .string ⟨#[]⟩, .slice none 0 0] 24)) A2)
  have E2 := Aside0.mk (show ((w.alloc (.cells #[.string ⟨#[]⟩, .int .i64 0, .bool false, .string ⟨#[]⟩, .slice none 0 0] 24)).alloc (.cells #[.int .i64 0] 26)).heap[w.heap.size + 1]? = some (.cells #[.int .i64 0] 26 (0, 0)) by
    have := heap_alloc_new (w.alloc (.cells #[.string ⟨#[]⟩, .int .i64 0, .bool false, .string ⟨#[]⟩, .slice none 0 0] 24)) (.cells #[.int .i64 0] 26)
    rwa [show (w.alloc (.cells #[.string ⟨#[]⟩, .int .i64 0, .bool false, .string ⟨#[]⟩, .slice none 0 0] 24)).heap.size = w.heap.size + 1 from Array.size_push _] at this)
  have B2 := Aside0.mk (below_then A1 A1.size A2)
  have S2 := Aside0.mk (show ((w.alloc (.cells #[.string ⟨#[]⟩, .int .i64 0, .bool false, .string ⟨#[]⟩, .slice none 0 0] 24)).alloc (.cells #[.int .i64 0] 26)).heap.size = w.heap.size + 2 from (Array.size_push _).trans (by rw [show (w.alloc (.cells #[.string ⟨#[]⟩, .int .i64 0, .bool false, .string ⟨#[]⟩, .slice none 0 0] 24)).heap.size = w.heap.size + 1 from Array.size_push _]))
  clear A1 A2
  obtain ⟨p0, hp0⟩ : ∃ p0, w.heap.size = p0 := ⟨_, rfl⟩
  have HP0 := Aside0.mk hp0
  rw [hp0] at N2 E2 S2 ⊢
  clear hp0
  generalize (w.alloc (.cells #[.string ⟨#[]⟩, .int .i64 0, .bool false, .string ⟨#[]⟩, .slice none 0 0] 24)).alloc (.cells #[.int .i64 0] 26) = W2 at N2 E2 B2 S2 ⊢
  refine (HNR.out W2).mono ?_
  rintro e w3 ⟨b, rfl, hb3, hr3, hbl3⟩
  have N3 := Aside0.mk (show NAt w3 p0 ⟨#[]⟩ 0 false ⟨#[]⟩ (.slice none 0 0) from blk_below N2.out hbl3)
  have E3 := Aside0.mk (blk_below E2.out hbl3)
  have B3 := Aside0.mk (below_then B2.out B2.out.size hbl3)
  have R3 := Aside0.mk hr3
  have G3 := Aside0.mk hb3
  have D3 := Aside0.mk hbl3
  clear hb3 hr3 hbl3
  have XB := Aside0.mk (below_alloc (Below.refl _ w3) (.cells #[.pointer (some ⟨b, 0, none⟩), .int .i64 0] 57))
  have H4 := Aside0.mk (show RW (w3.alloc (.cells #[.pointer (some ⟨b, 0, none⟩), .int .i64 0] 57)) w3.heap.size b 0 s.data.toList false from ⟨heap_alloc_new w3 (.cells #[.pointer (some ⟨b, 0, none⟩), .int .i64 0] 57), R3.out.lt, R3.out.below XB.out⟩)
  have c0 : (w3.alloc (.cells #[.pointer (some ⟨b, 0, none⟩), .int .i64 0] 57)).cell? ⟨w3.heap.size, 0, none⟩ = some (.pointer (some ⟨b, 0, none⟩)) := (blk_cell H4.out.1 0).trans rfl
  have N4 := Aside0.mk (show NAt (w3.alloc (.cells #[.pointer (some ⟨b, 0, none⟩), .int .i64 0] 57)) p0 ⟨#[]⟩ 0 false ⟨#[]⟩ (.slice none 0 0) from blk_below N3.out XB.out)
  have E4 := Aside0.mk (blk_below E3.out XB.out)
  have B4 := Aside0.mk (below_then B3.out B3.out.size XB.out)
  have HT := Aside0.mk (text_any b s.data.toList false (w3.alloc (.cells #[.pointer (some ⟨b, 0, none⟩), .int .i64 0] 57)) H4.out.2.2)
  go_wp2_with fail
  have D4 := Aside0.mk (below_then D3.out D3.out.size XB.out)
  have GB := Aside0.mk G3.out
  have G4 := Aside0.mk (show p0 + 2 ≤ b from by have := G3.out; have := S2.out; omega)
  clear XB N3 E3 B3 R3 G3 S2 D3
  generalize hg : w3.heap.size = g at H4 ⊢
  generalize w3.alloc (.cells #[.pointer (some ⟨b, 0, none⟩), .int .i64 0] 57) = W4 at H4 N4 E4 B4 D4 HT c0 ⊢
  clear hg c0
  refine HT.out.mono ?_
  rintro e w5 ⟨rfl, hr5, hg5⟩
  have H5 := Aside0.mk (H4.out.grown hg5 hr5)
  have N5 := Aside0.mk (show NAt w5 p0 ⟨#[]⟩ 0 false ⟨#[]⟩ (.slice none 0 0) from (hg5.block p0 (blk_lt N4.out) (by intro e; injection e with e; have := G4.out; omega)).trans N4.out)
  have E5 := Aside0.mk ((hg5.block (p0 + 1) (blk_lt E4.out) (by intro e; injection e with e; have := G4.out; omega)).trans E4.out)
  have B5 := Aside0.mk (B4.out.grown hg5 B4.out.size (fun k hk => by injection hk with hk; rw [← hk, HP0.out]; have := G4.out; omega))
  have D5 := Aside0.mk (D4.out.grown hg5 D4.out.size (fun k hk => by injection hk with hk; rw [← hk]; exact GB.out))
  clear hr5 hg5 HT H4 N4 E4 B4 D4
  have HMT := Aside0.mk (must_true w5)
  have HMF := Aside0.mk (must_false w5)
  obtain ⟨tx, htx⟩ : ∃ tx, str (textOf (textR s.data.toList)) = tx := ⟨_, rfl⟩
  rw [htx]
  have HTX := Aside0.mk htx
  clear htx
  cases hm : (tx.toList == ([119, 104, 105, 115, 107, 45, 116, 114, 101, 101] : List UInt8)) with
  | false =>
    go_wp2_with (first | (go_at_call 28; refine HMF.out.mono ?_; rintro e _ ⟨rfl, rfl⟩) | fail)
    trace_state
    refine leaves_cons (f := 26) (args := #[.pointer (some ⟨p0, 0, none⟩), .pointer (some ⟨p0 + 1, 0, none⟩)]) (by simp) (by simp [go_sem]) ?_
    refine (catch_wrong p0 (p0 + 1) w5 _ _ _ _ _ _ N5.out E5.out (by omega)).mono ?_
    rintro e u' w6 ⟨rfl, rfl, hn6, he6, hb6⟩
    refine ⟨_, dec_results _ rfl rfl hn6 he6, ?_⟩
    rw [← HPOST.out]
    have hd : decodeR s = (zeroT, 4) := by
      unfold decodeR decodeP
      cases ht : textR s.data.toList with
      | none => rfl
      | some p =>
        have h1 : str p.1 = tx := by rw [← HTX.out, ht]; rfl
        simp only [Option.bind_some]
        rw [h1, if_neg (by simpa using hm)]
    rw [hd]
    exact ⟨_, rfl, Kd.R_nil _ _ _ _ _, B5.out.trans (hb6 w.heap.size (by rw [HP0.out]; exact Nat.le_refl _) (by rw [HP0.out]; omega) B5.out.size)⟩
  | true =>
    obtain ⟨p, hp⟩ : ∃ p, textR s.data.toList = some p := by
      cases ht : textR s.data.toList with
      | some p => exact ⟨p, rfl⟩
      | none =>
        rw [← HTX.out, ht] at hm
        simp [textOf, str, tl_eq] at hm
    rw [hp] at H5
    have H5' := Aside0.mk (show RW w5 g b (13 - ((13 : Nat) : Int)) p.2 false from H5.out)
    have hx : str p.1 = tx := by rw [← HTX.out, hp]; rfl
    have HNC := Aside0.mk (nodeC_all 13 (Nat.le_refl _) g b p.2 false W2 w5 H5'.out (fun h => by cases h) GB.out D5.out)
    have HFT := Aside0.mk (fun t => HF.out p t hp)
    have HDP := Aside0.mk (show decodeP s = (nodeR 13 p.2).bind fun t => if t.2 = [] ∧ (encP t.1).2 = 0 ∧ (encP t.1).1.toList = s.toList then some t.1 else none by
      unfold decodeP
      rw [hp]
      simp only [Option.bind_some]
      rw [if_pos (by rw [hx]; simpa using hm)])
    clear hp hx H5 HF
    cases hres : nodeR 13 p.2 with
    | none =>
      rw [hres] at HNC HDP
      clear hres HFT
      go_wp2_with (first | (go_at_call 28; refine HMT.out.mono ?_; rintro e _ ⟨rfl, rfl⟩) | (go_at_call 30; refine HNC.out.mono ?_; rintro e w6 ⟨hb6, rfl⟩; have D6 := Aside0.mk hb6; clear hb6) | fail)
      have hlt := blk_lt N2.out
      have hlt' := blk_lt E2.out
      refine leaves_cons (f := 26) (args := #[.pointer (some ⟨p0, 0, none⟩), .pointer (some ⟨p0 + 1, 0, none⟩)]) (by simp) (by simp [go_sem]) ?_
      refine (catch_wrong p0 (p0 + 1) w6 _ _ _ _ _ _ (blk_below N2.out D6.out) (blk_below E2.out D6.out) (by omega)).mono ?_
      rintro e u' w7 ⟨rfl, rfl, hn7, he7, hb7⟩
      refine ⟨_, dec_results _ rfl rfl hn7 he7, ?_⟩
      rw [← HPOST.out]
      have hd : decodeR s = (zeroT, 4) := by unfold decodeR; rw [HDP.out]; rfl
      rw [hd]
      have B6 := below_then B2.out B2.out.size D6.out
      exact ⟨_, rfl, Kd.R_nil _ _ _ _ _, B6.trans (hb7 w.heap.size (by rw [HP0.out]; exact Nat.le_refl _) (by rw [HP0.out]; omega) B6.size)⟩
    | some t =>
      obtain ⟨⟨t0, t1, t2, t3, t4⟩, rest⟩ := t
      have HFS := Aside0.mk (HFT.out _ hres)
      rw [hres] at HNC HDP
      clear hres HFT
      dsimp only at HFS
      have hlt0 := blk_lt N2.out
      go_wp2_with (first | (go_at_call 28; refine HMT.out.mono ?_; rintro e _ ⟨rfl, rfl⟩) | (go_at_call 30; refine HNC.out.mono ?_; rintro e w6 ⟨hb6, v, rfl, hv6, hr6, hk6⟩; obtain ⟨Av, cv, rfl⟩ := Kd.R_slice hv6; have D6 := Aside0.mk hb6; have V6 := Aside0.mk hv6; have H6 := Aside0.mk hr6; clear hb6 hv6 hr6 hk6; have N6 := Aside0.mk (show NAt w6 p0 ⟨#[]⟩ 0 false ⟨#[]⟩ (.slice none 0 0) from blk_below N2.out D6.out); have z0 := (blk_cell N6.out 0).trans (rfl : _ = some (Value.string ⟨#[]⟩)); have y0 := blk_nofreeze N6.out 0; have z1 := (blk_cell N6.out 1).trans (rfl : _ = some (Value.int .i64 0)); have y1 := blk_nofreeze N6.out 1; have z2 := (blk_cell N6.out 2).trans (rfl : _ = some (Value.bool false)); have y2 := blk_nofreeze N6.out 2; have z3 := (blk_cell N6.out 3).trans (rfl : _ = some (Value.string ⟨#[]⟩)); have y3 := blk_nofreeze N6.out 3; have z4 := (blk_cell N6.out 4).trans (rfl : _ = some (Value.slice none 0 0)); have y4 := blk_nofreeze N6.out 4) | fail)
      have N7 := Aside0.mk (node_set (a0 := t0) (a1 := t1) (a2 := t2) (a3 := t3) (v := .slice Av t4.length cv) N6.out)
      have KK := Aside0.mk ((((((Kept.refl w6 (fun k => k = p0)).setCell (p := ⟨p0, 0, none⟩) (.inl rfl) (.string t0)).setCell (p := ⟨p0, 1, none⟩) (.inl rfl) (.int .i64 t1)).setCell (p := ⟨p0, 2, none⟩) (.inl rfl) (.bool t2)).setCell (p := ⟨p0, 3, none⟩) (.inl rfl) (.string t3)).setCell (p := ⟨p0, 4, none⟩) (.inl rfl) (.slice Av t4.length cv))
      have B6 := below_then B2.out B2.out.size D6.out
      have hw0 : w.heap.size ≤ p0 := by rw [HP0.out]; exact Nat.le_refl _
      have B7 := Aside0.mk (show Below w.heap.size w (((((w6.setCell ⟨p0, 0, none⟩ (.string t0)).setCell ⟨p0, 1, none⟩ (.int .i64 t1)).setCell ⟨p0, 2, none⟩ (.bool t2)).setCell ⟨p0, 3, none⟩ (.string t3)).setCell ⟨p0, 4, none⟩ (.slice Av t4.length cv)) from ((((B6.setCell (by exact hw0) _).setCell (by exact hw0) _).setCell (by exact hw0) _).setCell (by exact hw0) _).setCell (by exact hw0) _)
      generalize (((((w6.setCell ⟨p0, 0, none⟩ (.string t0)).setCell ⟨p0, 1, none⟩ (.int .i64 t1)).setCell ⟨p0, 2, none⟩ (.bool t2)).setCell ⟨p0, 3, none⟩ (.string t3)).setCell ⟨p0, 4, none⟩ (.slice Av t4.length cv)) = W7 at N7 KK B7 ⊢
      have E7 := Aside0.mk (blk_kept (blk_below E2.out D6.out) KK.out (by show ¬ (p0 + 1 = p0); omega))
      have T7 := Aside0.mk (show RdTop W7 b rest false from by
        obtain ⟨A, c, h1, _⟩ := H6.out.2.2
        exact ⟨A, c, blk_kept h1 KK.out (by have := G4.out; omega)⟩)
      have C7 := Aside0.mk (blk_kept H6.out.1 KK.out (by have := G4.out; have := H6.out.2.1; omega))
      have V7 := Aside0.mk (Kd.R_kept (Kd.R_bound V6.out) KK.out (fun k hk e => by have := hk.2.1; have := blk_lt N5.out; omega))
      have HEN := Aside0.mk (show Calls Try.prog 10 #[.agg #[.string t0, .int .i64 t1, .bool t2, .string t3, .slice Av t4.length cv]] W7 fun e w' => e = .returned (.tuple #[.string (encP ⟨t0, t1, t2, t3, t4⟩).1, .int .i64 (encP ⟨t0, t1, t2, t3, t4⟩).2]) ∧ Below W7.heap.size W7 w' from by
        obtain ⟨A, c, hac, hlc, hC⟩ := Kd.R_reads V7.out
        injection hac with h1 h2 h3
        subst h1; subst h3
        exact encode_any ⟨t0, t1, t2, t3, t4⟩ HFS.out.1 HFS.out.2 Av cv W7 hC hlc)
      obtain ⟨en, hen⟩ : ∃ en, encP ⟨t0, t1, t2, t3, t4⟩ = en := ⟨_, rfl⟩
      have hdp := HDP.out
      simp only [Option.bind_some] at hdp
      rw [hen] at HEN hdp
      have HDP2 := Aside0.mk hdp
      clear hen hdp HDP
      refine HEN.out.mono ?_
      rintro e w8 ⟨rfl, hb8⟩
      have T8 := Aside0.mk (show RdTop w8 b rest false from by obtain ⟨A, c, h⟩ := T7.out; exact ⟨A, c, blk_below h hb8⟩)
      have c8 : w8.cell? ⟨g, 0, none⟩ = some (.pointer (some ⟨b, 0, none⟩)) := (blk_cell (blk_below C7.out hb8) 0).trans rfl
      have N8 := Aside0.mk (show NAt w8 p0 t0 t1 t2 t3 (.slice Av t4.length cv) from blk_below N7.out hb8)
      have E8 := Aside0.mk (blk_below E7.out hb8)
      have B8 := Aside0.mk (below_then B7.out B7.out.size hb8)
      have V8 := Aside0.mk (Kd.R_below V7.out hb8)
      have HEND := Aside0.mk (end_top b rest false w8 T8.out)
      obtain ⟨es, ee⟩ := en
      dsimp only at HDP2
      clear hb8 HEN V7 B7 E7 N7 C7 T7 KK V6 H6 N6 D6 z0 z1 z2 z3 z4 y0 y1 y2 y3 y4 HNC
      cases h1 : rest.isEmpty with
      | false =>
        rw [h1] at HEND
        have HH := Aside0.mk h1
        clear h1
        have HM := Aside0.mk (must_false w8)
        go_wp2_with (first | (go_at_call 31; refine HEND.out.mono ?_; rintro e _ ⟨rfl, rfl⟩) | (go_at_call 28; refine HM.out.mono ?_; rintro e _ ⟨rfl, rfl⟩) | fail)
        refine leaves_cons (f := 26) (args := #[.pointer (some ⟨p0, 0, none⟩), .pointer (some ⟨p0 + 1, 0, none⟩)]) (by simp) (by simp [go_sem]) ?_
        refine (catch_wrong p0 (p0 + 1) w8 _ _ _ _ _ _ N8.out E8.out (by omega)).mono ?_
        rintro e u' w9 ⟨rfl, rfl, hn9, he9, hb9⟩
        refine ⟨_, dec_results _ rfl rfl hn9 he9, ?_⟩
        rw [← HPOST.out]
        have hd : decodeR s = (zeroT, 4) := by unfold decodeR; rw [HDP2.out, if_neg (fun h => by have := HH.out; rw [h.1] at this; cases this)]
        rw [hd]
        exact ⟨_, rfl, Kd.R_nil _ _ _ _ _, B8.out.trans (hb9 w.heap.size (by rw [HP0.out]; exact Nat.le_refl _) (by rw [HP0.out]; omega) B8.out.size)⟩
      | true =>
        rw [h1] at HEND
        have HH := Aside0.mk h1
        clear h1
        cases h2 : (ee == 0) with
        | false =>
          have HM := Aside0.mk (must_false w8)
          go_wp2_with (first | (go_at_call 31; refine HEND.out.mono ?_; rintro e _ ⟨rfl, rfl⟩) | (go_at_call 28; refine HM.out.mono ?_; rintro e _ ⟨rfl, rfl⟩) | fail)
          refine leaves_cons (f := 26) (args := #[.pointer (some ⟨p0, 0, none⟩), .pointer (some ⟨p0 + 1, 0, none⟩)]) (by simp) (by simp [go_sem]) ?_
          refine (catch_wrong p0 (p0 + 1) w8 _ _ _ _ _ _ N8.out E8.out (by omega)).mono ?_
          rintro e u' w9 ⟨rfl, rfl, hn9, he9, hb9⟩
          refine ⟨_, dec_results _ rfl rfl hn9 he9, ?_⟩
          rw [← HPOST.out]
          have hd : decodeR s = (zeroT, 4) := by unfold decodeR; rw [HDP2.out, if_neg (fun h => by rw [h.2.1] at h2; cases h2)]
          rw [hd]
          exact ⟨_, rfl, Kd.R_nil _ _ _ _ _, B8.out.trans (hb9 w.heap.size (by rw [HP0.out]; exact Nat.le_refl _) (by rw [HP0.out]; omega) B8.out.size)⟩
        | true =>
          cases h3 : (es.toList == s.toList) with
          | false =>
            have HM := Aside0.mk (must_false w8)
            go_wp2_with (first | (go_at_call 31; refine HEND.out.mono ?_; rintro e _ ⟨rfl, rfl⟩) | (go_at_call 28; refine HM.out.mono ?_; rintro e _ ⟨rfl, rfl⟩) | fail)
            refine leaves_cons (f := 26) (args := #[.pointer (some ⟨p0, 0, none⟩), .pointer (some ⟨p0 + 1, 0, none⟩)]) (by simp) (by simp [go_sem]) ?_
            refine (catch_wrong p0 (p0 + 1) w8 _ _ _ _ _ _ N8.out E8.out (by omega)).mono ?_
            rintro e u' w9 ⟨rfl, rfl, hn9, he9, hb9⟩
            refine ⟨_, dec_results _ rfl rfl hn9 he9, ?_⟩
            rw [← HPOST.out]
            have hd : decodeR s = (zeroT, 4) := by unfold decodeR; rw [HDP2.out, if_neg (fun h => by rw [h.2.2] at h3; simp at h3)]
            rw [hd]
            exact ⟨_, rfl, Kd.R_nil _ _ _ _ _, B8.out.trans (hb9 w.heap.size (by rw [HP0.out]; exact Nat.le_refl _) (by rw [HP0.out]; omega) B8.out.size)⟩
          | true =>
            have z0 := (blk_cell N8.out 0).trans (rfl : _ = some (Value.string t0))
            have y0 := blk_nofreeze N8.out 0
            have z1 := (blk_cell N8.out 1).trans (rfl : _ = some (Value.int .i64 t1))
            have y1 := blk_nofreeze N8.out 1
            have z2 := (blk_cell N8.out 2).trans (rfl : _ = some (Value.bool t2))
            have y2 := blk_nofreeze N8.out 2
            have z3 := (blk_cell N8.out 3).trans (rfl : _ = some (Value.string t3))
            have y3 := blk_nofreeze N8.out 3
            have z4 := (blk_cell N8.out 4).trans (rfl : _ = some (Value.slice Av t4.length cv))
            have y4 := blk_nofreeze N8.out 4
            have x0 := (blk_cell E8.out 0).trans (rfl : _ = some (Value.int .i64 0))
            have x1 := blk_nofreeze E8.out 0
            have hp01 : p0 ≠ p0 + 1 := by omega
            have hp10 : p0 + 1 ≠ p0 := by omega
            have HM := Aside0.mk (must_true w8)
            go_wp2_with (first | (go_at_call 31; refine HEND.out.mono ?_; rintro e _ ⟨rfl, rfl⟩) | (go_at_call 28; refine HM.out.mono ?_; rintro e _ ⟨rfl, rfl⟩) | fail)
            clear z0 z1 z2 z3 z4 y0 y1 y2 y3 y4 x0 x1
            have hw0 : w.heap.size ≤ p0 := by rw [HP0.out]; exact Nat.le_refl _
            have hw1 : w.heap.size ≤ p0 + 1 := by omega
            have n9 := (Below.heap_setCell (((((w8.setCell ⟨p0, 0, none⟩ (.string t0)).setCell ⟨p0, 1, none⟩ (.int .i64 t1)).setCell ⟨p0, 2, none⟩ (.bool t2)).setCell ⟨p0, 3, none⟩ (.string t3)).setCell ⟨p0, 4, none⟩ (.slice Av t4.length cv)) ⟨p0 + 1, 0, none⟩ (.int .i64 0) p0 hp01).trans (node_set (a0 := t0) (a1 := t1) (a2 := t2) (a3 := t3) (v := .slice Av t4.length cv) N8.out)
            have KK := (((((Kept.refl w8 (fun k => k = p0)).setCell (p := ⟨p0, 0, none⟩) (.inl rfl) (.string t0)).setCell (p := ⟨p0, 1, none⟩) (.inl rfl) (.int .i64 t1)).setCell (p := ⟨p0, 2, none⟩) (.inl rfl) (.bool t2)).setCell (p := ⟨p0, 3, none⟩) (.inl rfl) (.string t3)).setCell (p := ⟨p0, 4, none⟩) (.inl rfl) (.slice Av t4.length cv)
            have e9 := (blk_store (l := [_]) (blk_kept E8.out KK (by show ¬ (p0 + 1 = p0); omega)) 0 (.int .i64 0)).trans rfl
            have B9 : Below w.heap.size w ((((((w8.setCell ⟨p0, 0, none⟩ (.string t0)).setCell ⟨p0, 1, none⟩ (.int .i64 t1)).setCell ⟨p0, 2, none⟩ (.bool t2)).setCell ⟨p0, 3, none⟩ (.string t3)).setCell ⟨p0, 4, none⟩ (.slice Av t4.length cv)).setCell ⟨p0 + 1, 0, none⟩ (.int .i64 0)) := (((((B8.out.setCell (by exact hw0) _).setCell (by exact hw0) _).setCell (by exact hw0) _).setCell (by exact hw0) _).setCell (by exact hw0) _).setCell (by exact hw1) _
            have KK2 := (KK.mono (fun k hk => Or.inl hk : ∀ k, k = p0 → k = p0 ∨ k = p0 + 1)).setCell (p := ⟨p0 + 1, 0, none⟩) (.inl (.inr rfl)) (.int .i64 0)
            have V9 := Kd.R_kept (Kd.R_bound V8.out) KK2 (fun k hk e => by have := hk.2.1; have := blk_lt E5.out; omega)
            refine leaves_cons (f := 26) (args := #[.pointer (some ⟨p0, 0, none⟩), .pointer (some ⟨p0 + 1, 0, none⟩)]) (by simp) (by simp [go_sem]) ?_
            refine (catch_idle ⟨p0, 0, none⟩ ⟨p0 + 1, 0, none⟩ _).mono ?_
            rintro e u' w9 ⟨rfl, rfl, rfl⟩
            refine ⟨_, dec_results _ rfl rfl n9 e9, ?_⟩
            rw [← HPOST.out]
            have hd : decodeR s = (⟨t0, t1, t2, t3, t4⟩, 0) := by
              unfold decodeR
              rw [HDP2.out, if_pos ⟨by have := HH.out; simpa using this, by simpa using h2, by simpa using h3⟩]
            rw [hd]
            exact ⟨_, rfl, Kd.R_lower (Kd.R_mono V9 (fun _ _ => trivial)) B5.out.size, B9⟩
open Classical in
noncomputable def nar_Decode.f (a0 : ByteArray) : Option (ByteArray × Int × Bool × ByteArray × (List S24) × Int) :=
  if a0.size ≤ 140737488351232 ∧ (∀ p t, textR a0.data.toList = some p → nodeR 13 p.2 = some t → Fit t.1 ∧ Sized t.1) then some ((decodeR a0).1.f0, (decodeR a0).1.f1, (decodeR a0).1.f2, (decodeR a0).1.f3, (decodeR a0).1.f4, (decodeR a0).2) else none
theorem nar_Decode.calls (a0 : ByteArray) (r0 : ByteArray) (r1 : Int) (r2 : Bool) (r3 : ByteArray) (r4 : List S24) (r5 : Int) (w : World) (h : nar_Decode.f a0 = some (r0, r1, r2, r3, r4, r5)) :
    Calls Try.prog 13 #[.string a0] w fun e w' => ∃ v4_ : Value, e = .returned (.tuple #[.agg #[.string r0, .int .i64 r1, .bool r2, .string r3, v4_], .int .i64 r5]) ∧ Kd.R k24 24 w' w.heap.size (fun _ => True) v4_ r4 ∧ Below w.heap.size w w' := by
  unfold nar_Decode.f at h
  split at h
  · rename_i hf
    have he := Option.some.inj h
    simp only [Prod.mk.injEq] at he
    obtain ⟨rfl, rfl, rfl, rfl, rfl, rfl⟩ := he
    exact decode_any a0 hf.1 hf.2 w
  · cases h
end Go.Proofs.Ytnnpfahlfmeakaa.PB
namespace Go.Proofs.Ytnnpfahlfmeakaa
open Go.Proofs.Ytnnpfahlfmeakaa.PB Go.Proofs.YtnnpfahlfmeakaaW.PrintWords
set_option linter.unusedVariables false
theorem parsed_fit (s : ByteArray) (hs : s.size ≤ 140737488351232) (p : List UInt8 × List UInt8) (t : Tree × List UInt8) (hp : textR s.data.toList = some p) (ht : nodeR 13 p.2 = some t) : Fit t.1 ∧ Sized t.1 := by
  have a1 := textR_len (t := p.1) (r := p.2) hp
  have a2 : s.data.toList.length = s.size := rfl
  obtain ⟨h1, h2⟩ := nodeR_fit 13 p.2 t.1 t.2 (by omega) ht
  exact ⟨h1, fun _ _ => by omega⟩
theorem decode_f (s : ByteArray) (hs : s.size ≤ 140737488351232) : nar_Decode.f s = some ((decodeR s).1.f0, (decodeR s).1.f1, (decodeR s).1.f2, (decodeR s).1.f3, (decodeR s).1.f4, (decodeR s).2) := by
  unfold nar_Decode.f
  rw [if_pos ⟨hs, fun p t hp ht => parsed_fit s hs p t hp ht⟩]
end Go.Proofs.Ytnnpfahlfmeakaa

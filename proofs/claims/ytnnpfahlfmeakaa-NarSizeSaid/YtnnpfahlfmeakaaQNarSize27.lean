import Derived.Test.YtnnpfahlfmeakaaQNarSize26
namespace Go.Proofs.Ytnnpfahlfmeakaa.PB
open Go.RowKit Go.Proofs.Ytnnpfahlfmeakaa Go.Proofs.YtnnpfahlfmeakaaW.PrintWords Go.Proofs.YtnnpfahlfmeakaaW.PrintLast
set_option linter.unusedVariables false
set_option linter.unusedSimpArgs false
/-- What stands before a round of a directory's reading. -/
def DInv (g b q : Nat) (d : Int) (lost1 : Bool) (nm : ByteArray) (kd : Int) (ex : Bool) (dt : ByteArray) (w0 w : World) (f : List UInt8 → Option (Tree × List UInt8)) (n : Nat) (l1 : List UInt8) (j : Nat) (wr : World) : Prop :=
  ∃ (done : List Tree) (lj : List UInt8) (v : Value), kidsR f n l1 = (kidsR f (n - j) lj).map (fun p => (done ++ p.1, p.2)) ∧ done.length = j ∧ RW wr g b d lj lost1 ∧ NAt wr q nm kd ex dt v ∧ Kd.R k24 24 wr w.heap.size (fun _ => True) v done ∧ Below w0.heap.size w0 wr ∧ Kept w wr (fun k => k = b ∨ k = g ∨ k = q)
theorem dir_out {g b q n m' : Nat} {l l1 : List UInt8} {lost lost1 : Bool} {nm dt : ByteArray} {kd : Int} {ex : Bool} {w0 w wr : World} (hgq : g < q) (hqw : q < w.heap.size) (hbg : b < g) (hb0 : w0.heap.size ≤ b)
    (HD : (dirH (kidF (m' + 1)) l = none ∧ n = 0 ∧ (l1, lost1) = ([], true)) ∨ (dirH (kidF (m' + 1)) l = kidsR (nodeR m') n l1 ∧ lost1 = lost))
    (HI : DInv g b q (13 - (m' : Int)) lost1 nm kd ex dt w0 w (nodeR m') n l1 n wr) (u : Value) (hu : u = .int .i64 (13 - ((m' + 1 : Nat) : Int))) :
    DirPost g b q (13 - ((m' + 1 : Nat) : Int)) lost nm kd ex dt w0 w (dirH (kidF (m' + 1)) l) (.returned (.tuple #[])) (wr.setCell ⟨g, 1, none⟩ u) := by
  subst hu
  obtain ⟨done, lj, v, h1, h2, h3, h4, h5, h6, h7⟩ := HI
  have e1 : kidsR (nodeR m') n l1 = some (done, lj) := by rw [h1, Nat.sub_self]; simp [kidsR]
  have r1 : RW (wr.setCell ⟨g, 1, none⟩ (.int .i64 (13 - ((m' + 1 : Nat) : Int)))) g b (13 - ((m' + 1 : Nat) : Int)) lj lost1 :=
    ⟨(blk_store (l := [_, _]) h3.1 1 _).trans rfl, h3.2.1, h3.2.2.keep (by simp [World.setCell]) (fun i hi => Below.heap_setCell wr ⟨g, 1, none⟩ _ i (by show i ≠ g; omega))⟩
  have r2 : Below w0.heap.size w0 (wr.setCell ⟨g, 1, none⟩ (.int .i64 (13 - ((m' + 1 : Nat) : Int)))) := h6.setCell (by show w0.heap.size ≤ g; omega) _
  refine ⟨r2, ?_⟩
  rcases HD with ⟨hd, hn, hl⟩ | ⟨hd, hl⟩
  · rw [hd]
    injection hl with hl1 hl2
    subst hn; subst hl1; subst hl2
    simp only [kidsR] at e1
    injection e1 with e1
    injection e1 with e1 e2
    subst e2
    exact .inr ⟨rfl, r1⟩
  · rw [hd, e1]
    subst hl
    have hqs : q < wr.heap.size := blk_lt h4
    refine ⟨v, rfl, Kd.R_step (Kd.R_bound h5) (fun k hk _ => Below.heap_setCell wr ⟨g, 1, none⟩ _ k (by show k ≠ g; have := hk.2.1; omega)) |> fun h => Kd.R_mono h (fun _ _ => trivial), r1, ?_, h7.setCell (.inl (.inr (.inl rfl))) _⟩
    exact (Below.heap_setCell wr ⟨g, 1, none⟩ _ q (by show q ≠ g; omega)).trans h4
set_option maxRecDepth 100000 in
set_option maxHeartbeats 16000000 in
theorem rdir_calls (m : Nat) (hm : m ≤ 13) (ihm : ∀ m', m = m' + 1 → NodeC m') (g b q : Nat) (l : List UInt8) (lost : Bool) (nm : ByteArray) (kd : Int) (ex : Bool) (dt : ByteArray) (w0 w : World) (h : RW w g b (13 - (m : Int)) l lost) (hlost : lost = true → l = []) (hq : NAt w q nm kd ex dt (.slice none 0 0)) (hgq : g < q) (hb : w0.heap.size ≤ b) (hB : Below w0.heap.size w0 w) :
    Calls Try.prog 53 #[.pointer (some ⟨g, 0, none⟩), .pointer (some ⟨q, 0, none⟩)] w (DirPost g b q (13 - (m : Int)) lost nm kd ex dt w0 w (dirH (kidF m) l)) := by
  have hu := Try.underlying24
  have hu2 := Try.underlying57
  obtain ⟨R, hR⟩ : ∃ R, DirPost g b q (13 - (m : Int)) lost nm kd ex dt w0 w (dirH (kidF m) l) = R := ⟨_, rfl⟩
  rw [hR]
  have HPOST := Aside0.mk hR
  have HQW := Aside0.mk (show q < w.heap.size from blk_lt hq)
  clear hR
  have H := Aside0.mk h
  have HQ := Aside0.mk hq
  have HB := Aside0.mk hB
  have HLO := Aside0.mk hlost
  have HIH := Aside0.mk ihm
  have HN := Aside0.mk (num_any b l lost w h.2.2)
  have HNL := Aside0.mk (show numOf (numR l) < 18446744073709551616 by
    cases hn : numR l with
    | none => simp [numOf]
    | some p => unfold numR at hn; split at hn <;> first | (cases hn; done) | (injection hn with hn; subst hn; exact numVal_lt _))
  have HL := Aside0.mk (And.intro hgq (And.intro h.2.1 hb))
  have c0 : w.cell? ⟨g, 0, none⟩ = some (.pointer (some ⟨b, 0, none⟩)) := (blk_cell h.1 0).trans rfl
  clear h hq hB hgq hb hlost ihm
  obtain ⟨n, hn0⟩ : ∃ n, numOf (numR l) = n := ⟨_, rfl⟩
  have HN0 := Aside0.mk hn0
  rw [hn0] at HN HNL
  clear hn0
  go_enter Try.func53, Try.ntmps53
  go_wp2_with fail
  refine HN.out.mono ?_
  rintro e w1 ⟨rfl, hr, hg⟩
  have H1 := Aside0.mk (H.out.grown hg hr)
  have Q1 := Aside0.mk (HQ.out.grown hg (by have := HL.out; omega))
  have B1 := Aside0.mk (HB.out.grown hg HB.out.size (fun k hk => by injection hk with hk; rw [← hk]; exact HL.out.2.2))
  have K1 := Aside0.mk (Kept.of_grown (S := fun k => k = b ∨ k = g ∨ k = q) hg (Kept.refl w _) (fun k hk => .inl (.inl (by injection hk with hk; exact hk.symm))))
  clear hr hg HN
  have HMT := Aside0.mk (must_true w1)
  have HMF := Aside0.mk (must_false w1)
  have c1 : w1.cell? ⟨g, 1, none⟩ = some (.int .i64 (13 - (m : Int))) := (blk_cell H1.out.1 1).trans rfl
  by_cases hn : n ≤ 2000
  · have hni : (n : Int) ≤ 2000 := by omega
    have hdn : decide ((n : Int) ≤ 2000) = true := decide_eq_true hni
    cases m with
    | zero =>
      go_wp2_with (first | (go_at_call 28; refine HMF.out.mono ?_; rintro e _ ⟨rfl, rfl⟩) | fail)
      refine ⟨rfl, ?_⟩
      rw [← HPOST.out]
      refine ⟨B1.out, ?_⟩
      have hd : dirH (kidF 0) l = none := by unfold dirH kidF; cases numR l <;> rfl
      rw [hd]
      exact .inl rfl
    | succ m' =>
      have hdm : decide ((13 : Int) - ((m' + 1 : Nat) : Int) ≤ 12) = true := decide_eq_true (by omega)
      have hdm2 : (13 : Int) - ((m' : Int) + 1) ≤ 12 := by omega
      have c0' : w1.cell? ⟨g, 0, none⟩ = some (.pointer (some ⟨b, 0, none⟩)) := (blk_cell H1.out.1 0).trans rfl
      have hfz : w1.frozen? ⟨g, 1, none⟩ = false := blk_nofreeze H1.out.1 1
      go_wp2_with (first | (go_at_call 28; refine HMT.out.mono ?_; rintro e _ ⟨rfl, rfl⟩) | fail)
      have hde : (13 : Int) - ((m' : Int) + 1) + 1 = 13 - (m' : Int) := by omega
      have H2 := Aside0.mk (show RW (w1.setCell ⟨g, 1, none⟩ (.int .i64 (13 - ((m' : Int) + 1) + 1))) g b (13 - (m' : Int)) (after lost (numR l)).1 (after lost (numR l)).2 by
        rw [hde]
        refine ⟨(blk_store (l := [_, _]) H1.out.1 1 _).trans rfl, H1.out.2.1, H1.out.2.2.keep (by simp [World.setCell]) (fun i hi => Below.heap_setCell w1 ⟨g, 1, none⟩ _ i (by show i ≠ g; have := H1.out.2.1; omega))⟩)
      have Q2 := Aside0.mk (show NAt (w1.setCell ⟨g, 1, none⟩ (.int .i64 (13 - ((m' : Int) + 1) + 1))) q nm kd ex dt (.slice none 0 0) from (Below.heap_setCell w1 ⟨g, 1, none⟩ _ q (by show q ≠ g; have := HL.out; omega)).trans Q1.out)
      have B2 := Aside0.mk (show Below w0.heap.size w0 (w1.setCell ⟨g, 1, none⟩ (.int .i64 (13 - ((m' : Int) + 1) + 1))) from B1.out.setCell (by show w0.heap.size ≤ g; have := HL.out; omega) _)
      have K2 := Aside0.mk (show Kept w (w1.setCell ⟨g, 1, none⟩ (.int .i64 (13 - ((m' : Int) + 1) + 1))) (fun k => k = b ∨ k = g ∨ k = q) from K1.out.setCell (.inl (.inr (.inl rfl))) _)
      generalize w1.setCell ⟨g, 1, none⟩ (.int .i64 (13 - ((m' : Int) + 1) + 1)) = W2 at H2 Q2 B2 K2 ⊢
      clear H1 Q1 B1 K1 c0 c1 c0' hfz HMT HMF
      have HLF := Aside0.mk (show 1 ≤ n → (after lost (numR l)).2 = false by
        intro h1
        have h0 := HN0.out
        cases hr : numR l with
        | none => rw [hr] at h0; simp only [numOf] at h0; omega
        | some p =>
          show lost = false
          cases hlo : lost with
          | false => rfl
          | true => rw [HLO.out hlo] at hr; rw [numR_nil] at hr; cases hr)
      have HD := Aside0.mk (show (dirH (kidF (m' + 1)) l = none ∧ n = 0 ∧ (after lost (numR l)) = ([], true)) ∨ (dirH (kidF (m' + 1)) l = kidsR (nodeR m') n (after lost (numR l)).1 ∧ (after lost (numR l)).2 = lost) by
        have h0 := HN0.out
        cases hr : numR l with
        | none => rw [hr] at h0; simp only [numOf] at h0; exact .inl ⟨by unfold dirH; rw [hr]; rfl, h0.symm, rfl⟩
        | some p =>
          rw [hr] at h0; simp only [numOf] at h0
          refine .inr ⟨?_, rfl⟩
          unfold dirH kidF
          rw [hr]
          simp only [Option.bind_some]
          rw [if_neg (by omega)]
          simp only
          rw [if_pos (by omega), h0]; rfl)
      obtain ⟨st, hst⟩ : ∃ st, after lost (numR l) = st := ⟨_, rfl⟩
      rw [hst] at HD HLF H2
      obtain ⟨l1, lost1⟩ := st
      dsimp only at HD HLF H2
      clear hst
      have hnl : (n : Int) < 18446744073709551616 := by have := HNL.out; omega
      have IHN := Aside0.mk (HIH.out m' rfl)
      go_loopw [30] (fun i wr => ∃ (j : Nat), j ≤ n ∧ i = .int .u64 j ∧ Aside0 (DInv g b q (13 - (m' : Int)) lost1 nm kd ex dt w0 w (nodeR m') n l1 j wr)) (fun i _ => n - (intOf i).toNat)
      case atStart => exact ⟨0, Nat.zero_le _, rfl, ⟨[], l1, .slice none 0 0, by cases kidsR (nodeR m') n l1 <;> simp, rfl, H2.out, Q2.out, Kd.R_nil _ _ _ _ _, B2.out, K2.out⟩⟩
      case round =>
        obtain ⟨j, hj, rfl, HI⟩ := hrel
        by_cases hlt : j < n
        · obtain ⟨done, lj, v, HK, HDL, HR, HQ', HV, HW, HKe⟩ := HI.out
          replace HK := Aside0.mk HK
          replace HDL := Aside0.mk HDL
          replace HR := Aside0.mk HR
          replace HQ' := Aside0.mk HQ'
          replace HV := Aside0.mk HV
          replace HW := Aside0.mk HW
          replace HKe := Aside0.mk HKe
          have hlf : lost1 = false := HLF.out (by omega)
          subst hlf
          have c0 : wr.cell? ⟨g, 0, none⟩ = some (.pointer (some ⟨b, 0, none⟩)) := (blk_cell HR.out.1 0).trans rfl
          have HT := Aside0.mk (text_any b lj false wr HR.out.2.2)
          have hltI : (j : Int) < (n : Int) := by omega
          go_wp2_with fail
          refine HT.out.mono ?_
          rintro e w3 ⟨rfl, hr3, hg3⟩
          have H3 := Aside0.mk (HR.out.grown hg3 hr3)
          have Q3 := Aside0.mk (HQ'.out.grown hg3 (by have := HL.out; omega))
          have B3 := Aside0.mk (HW.out.grown hg3 HW.out.size (fun k hk => by injection hk with hk; rw [← hk]; exact HL.out.2.2))
          have K3 := Aside0.mk (Kept.of_grown hg3 HKe.out (fun k hk => .inl (.inl (by injection hk with hk; exact hk.symm))))
          have V3 := Aside0.mk (Kd.R_grown (Kd.R_bound HV.out) hg3 (fun k hk => by intro e; injection e with e; have := hk.2.1; have := HL.out; have := HQW.out; omega))
          clear hr3 hg3 HT c0
          have HLT := Aside0.mk (show (after false (textR lj)).2 = true → (after false (textR lj)).1 = [] by
            cases ht : textR lj with
            | none => intro _; rfl
            | some p => intro h; cases h)
          have HNC := Aside0.mk (IHN.out g b (after false (textR lj)).1 (after false (textR lj)).2 w0 w3 H3.out HLT.out HL.out.2.2 B3.out)
          obtain ⟨nj, hnj⟩ : ∃ nj, n - j = nj + 1 := ⟨n - j - 1, by omega⟩
          cases hres : nodeR m' (after false (textR lj)).1 with
          | none =>
            have HRN := Aside0.mk (show dirH (kidF (m' + 1)) l = none by
              rcases HD.out with ⟨h1, _, _⟩ | ⟨h1, _⟩
              · exact h1
              · rw [h1, HK.out, hnj, kidsR_succ]
                cases ht : textR lj with
                | none => rfl
                | some p =>
                  rw [ht] at hres
                  simp only [Option.bind_some]
                  rw [show nodeR m' p.2 = none from hres]; rfl)
            rw [hres] at HNC
            clear hres hnj
            obtain ⟨tx, htx⟩ : ∃ tx, str (textOf (textR lj)) = tx := ⟨_, rfl⟩
            rw [htx]
            clear htx
            go_wp2_with (first | (go_at_call 30; refine HNC.out.mono ?_; rintro e w4 ⟨hb4, rfl⟩; have B4 := Aside0.mk hb4; clear hb4) | fail)
            refine ⟨rfl, ?_⟩
            rw [← HPOST.out]
            refine ⟨B4.out, ?_⟩
            rw [HRN.out]
            exact .inl rfl
          | some res =>
            obtain ⟨t, l3⟩ := res
            have HSTEP := Aside0.mk (show ∃ p, textR lj = some p ∧ kidsR (nodeR m') (nj + 1) lj = (kidsR (nodeR m') nj l3).bind fun r => some (⟨str p.1, t.f1, t.f2, t.f3, t.f4⟩ :: r.1, r.2) by
              cases ht : textR lj with
              | none => rw [ht] at hres; exact absurd hres (by rw [show (after false (none : Option (List UInt8 × List UInt8))).1 = [] from rfl, nodeR_nil]; simp)
              | some p =>
                rw [ht] at hres
                refine ⟨p, rfl, ?_⟩
                rw [kidsR_succ, ht]
                simp only [Option.bind_some]
                rw [show nodeR m' p.2 = some (t, l3) from hres]; rfl)
            obtain ⟨p, hp, hks⟩ := HSTEP.out
            have HLS : (after false (textR lj)).2 = false := by rw [hp]; rfl
            have htx : str (textOf (textR lj)) = str p.1 := by rw [hp]; rfl
            rw [hres, HLS] at HNC
            rw [htx]
            have HKS := Aside0.mk hks
            have HP := Aside0.mk hp
            have HNJ := Aside0.mk hnj
            clear hres hks hp hnj HLS htx HSTEP HLT
            obtain ⟨tx, htx⟩ : ∃ tx, str p.1 = tx := ⟨_, rfl⟩
            rw [htx] at HKS ⊢
            clear htx HP
            obtain ⟨t0, t1, t2, t3, t4⟩ := t
            dsimp only at HKS HNC
            go_wp2_with (first | (go_at_call 30; refine HNC.out.mono ?_; rintro e w4 ⟨hb4, vk, rfl, hv4, hr4, hk4⟩; obtain ⟨Ak, ck, rfl⟩ := Kd.R_slice hv4; have B4 := Aside0.mk hb4; have V4 := Aside0.mk hv4; have H4 := Aside0.mk hr4; have K4 := Aside0.mk hk4; clear hb4 hv4 hr4 hk4) | fail)
            have KW := Aside0.mk (K3.out.then_ K4.out (fun k hk => .inl (by rcases hk with hk | hk; exact .inl hk; exact .inr (.inl hk))))
            have Q4 := Aside0.mk (show NAt w4 q nm kd ex dt v from blk_kept Q3.out K4.out (by have := HL.out; omega))
            have V5 := Aside0.mk (Kd.R_kept (Kd.R_bound V3.out) K4.out (fun k hk hs => by have := hk.2.1; have := HL.out; have := HQW.out; omega))
            have XN := Aside0.mk (heap_alloc_new w4 (.cells #[.string tx, .int .i64 t1, .bool t2, .string t3, .slice Ak t4.length ck] 24))
            have AB := Aside0.mk (below_alloc (Below.refl _ w4) (.cells #[.string tx, .int .i64 t1, .bool t2, .string t3, .slice Ak t4.length ck] 24))
            have ASZ := Aside0.mk (alloc_size w4 (.cells #[.string tx, .int .i64 t1, .bool t2, .string t3, .slice Ak t4.length ck] 24))
            have H5 := Aside0.mk (H4.out.keep (Kept.of_below AB.out (fun _ => False)) (fun _ _ h => h))
            have Q5 := Aside0.mk (Q4.out.below AB.out)
            have B5 := Aside0.mk (below_then B4.out B4.out.size AB.out)
            have K5 := Aside0.mk (KW.out.below AB.out)
            have V6 := Aside0.mk (Kd.R_below (Kd.R_mono V5.out (ok' := fun k => k < w3.heap.size) (fun k hk => hk.2.2.1)) AB.out)
            have HQN := Aside0.mk K3.out.1
            have V7 := Aside0.mk (Kd.R_below (Kd.R_mono (Kd.R_bound V4.out) (ok' := fun k => w3.heap.size ≤ k ∧ k < w4.heap.size) (fun k hk => ⟨hk.2.1, hk.2.2.1⟩)) AB.out)
            obtain ⟨x, hx⟩ : ∃ x, w4.heap.size = x := ⟨_, rfl⟩
            have HX := Aside0.mk (show w3.heap.size ≤ x by rw [← hx]; exact K4.out.1)
            rw [hx] at XN V7 ASZ
            rw [show w4.heap.size = x from hx]
            generalize w4.alloc (.cells #[.string tx, .int .i64 t1, .bool t2, .string t3, .slice Ak t4.length ck] 24) = W5 at XN AB ASZ H5 Q5 B5 K5 V6 V7 ⊢
            clear V5 V4 V3 Q4 Q3 B3 B4 K3 K4 KW H4 H3 AB
            have hdl : done.length = j := HDL.out
            obtain ⟨Av, cv, rfl⟩ := Kd.R_slice V6.out
            have HO := Aside0.mk V6.out
            have k4 : W5.cell? ⟨q, 4, none⟩ = some (.slice Av done.length cv) := (blk_cell Q5.out 4).trans rfl
            have x0 : W5.cell? ⟨x, 0, none⟩ = some (.string tx) := (blk_cell XN.out 0).trans rfl
            have x1 : W5.cell? ⟨x, 1, none⟩ = some (.int .i64 t1) := (blk_cell XN.out 1).trans rfl
            have x2 : W5.cell? ⟨x, 2, none⟩ = some (.bool t2) := (blk_cell XN.out 2).trans rfl
            have x3 : W5.cell? ⟨x, 3, none⟩ = some (.string t3) := (blk_cell XN.out 3).trans rfl
            have x4 : W5.cell? ⟨x, 4, none⟩ = some (.slice Ak t4.length ck) := (blk_cell XN.out 4).trans rfl
            have XZ := blk_below XN.out (below_alloc (Below.refl _ W5) (.cells #[.string ⟨#[]⟩, .int .i64 0, .bool false, .string ⟨#[]⟩, .slice none 0 0] 24))
            have QZ := blk_below Q5.out (below_alloc (Below.refl _ W5) (.cells #[.string ⟨#[]⟩, .int .i64 0, .bool false, .string ⟨#[]⟩, .slice none 0 0] 24))
            have z0 : (W5.alloc (.cells #[.string ⟨#[]⟩, .int .i64 0, .bool false, .string ⟨#[]⟩, .slice none 0 0] 24)).cell? ⟨x, 0, none⟩ = some (.string tx) := (blk_cell XZ 0).trans rfl
            have z1 : (W5.alloc (.cells #[.string ⟨#[]⟩, .int .i64 0, .bool false, .string ⟨#[]⟩, .slice none 0 0] 24)).cell? ⟨x, 1, none⟩ = some (.int .i64 t1) := (blk_cell XZ 1).trans rfl
            have z2 : (W5.alloc (.cells #[.string ⟨#[]⟩, .int .i64 0, .bool false, .string ⟨#[]⟩, .slice none 0 0] 24)).cell? ⟨x, 2, none⟩ = some (.bool t2) := (blk_cell XZ 2).trans rfl
            have z3 : (W5.alloc (.cells #[.string ⟨#[]⟩, .int .i64 0, .bool false, .string ⟨#[]⟩, .slice none 0 0] 24)).cell? ⟨x, 3, none⟩ = some (.string t3) := (blk_cell XZ 3).trans rfl
            have z4 : (W5.alloc (.cells #[.string ⟨#[]⟩, .int .i64 0, .bool false, .string ⟨#[]⟩, .slice none 0 0] 24)).cell? ⟨x, 4, none⟩ = some (.slice Ak t4.length ck) := (blk_cell XZ 4).trans rfl
            have zq : (W5.alloc (.cells #[.string ⟨#[]⟩, .int .i64 0, .bool false, .string ⟨#[]⟩, .slice none 0 0] 24)).cell? ⟨q, 4, none⟩ = some (.slice Av done.length cv) := (blk_cell QZ 4).trans rfl
            clear XZ QZ
            have hlen : (done.length + 1) * 72 ≤ 140737488355328 := by omega
            clear hdl
            obtain ⟨h00, inner, hown, hrep⟩ := HO.out
            have HOW := Aside0.mk hown
            have HRP := Aside0.mk hrep
            clear hown hrep h00
            have hbs : w.heap.size ≤ W5.drew.heap.size := K5.out.1
            have AP := Aside0.mk Try.underlying22
            go_region_law (refine step_append_cells (w0 := W5) (W := W5.drew) w.heap.size rfl (.tmp 44) (.tmp 47) 22 24 (.agg #[(.string ⟨#[]⟩), (.int .i64 0), (.bool false), (.string ⟨#[]⟩), (.slice none 0 0)]) 5 72 rfl AP.out info24 rfl (by decide) (by decide) (.slice Av done.length cv) done.length inner [.string ⟨#[]⟩, .int .i64 0, .bool false, .string ⟨#[]⟩, .slice none 0 0] rfl rfl rfl (by simp [Value.oneCell']) HOW.out ((Below.refl _ W5).drew) hbs hlen ?_; intro v1 w1 hown1 hB1 hG1 hat1; have HOWN1 := Aside0.mk hown1; have HB1 := Aside0.mk hB1; have HG1 := Aside0.mk hG1; have HAT1 := Aside0.mk hat1; clear hown1 hB1 hG1 hat1; obtain ⟨g1, c1, cur, rfl, hg1, hh1, hc1, hs1⟩ := own_open HOWN1.out; have HH1 := Aside0.mk hh1; have HG1' := Aside0.mk hg1; have HS1 := Aside0.mk hs1; clear hh1; have hll : (done.length : Int) < (done.length : Int) + 1 := (by omega); have hgq1 : g1 ≠ q := (by have := HQW.out; omega); have hgq2 : q ≠ g1 := Ne.symm hgq1; have Q6 := Aside0.mk (blk_below' HB1.out Q5.out HQW.out); have q4 : w1.cell? ⟨q, 4, none⟩ = some (.slice Av done.length cv) := (blk_cell Q6.out 4).trans rfl; have qf : w1.frozen? ⟨q, 4, none⟩ = false := blk_nofreeze Q6.out 4; obtain ⟨u0, hu0⟩ := own_cell (i := done.length * 5) HH1.out (by rw [hs1]; omega); obtain ⟨u1, hu1⟩ := own_cell (i := done.length * 5 + 1) HH1.out (by rw [hs1]; omega); obtain ⟨u2, hu2⟩ := own_cell (i := done.length * 5 + 2) HH1.out (by rw [hs1]; omega); obtain ⟨u3, hu3⟩ := own_cell (i := done.length * 5 + 3) HH1.out (by rw [hs1]; omega); obtain ⟨u4, hu4⟩ := own_cell (i := done.length * 5 + 4) HH1.out (by rw [hs1]; omega); have f0 := blk_nofreeze HH1.out (done.length * 5); have f1 := blk_nofreeze HH1.out (done.length * 5 + 1); have f2 := blk_nofreeze HH1.out (done.length * 5 + 2); have f3 := blk_nofreeze HH1.out (done.length * 5 + 3); have f4 := blk_nofreeze HH1.out (done.length * 5 + 4); clear hs1)
            all_goals
              go_wp2_with fail
              go_roundw
              case rel =>
                have EA : DInv g b q (13 - (m' : Int)) false nm kd ex dt w0 w (nodeR m') n l1 (j + 1) ((((((w1.setCell ⟨q, 4, none⟩ (.slice (some ⟨g1, 0, none⟩) (done.length + 1) c1)).setCell ⟨g1, done.length * 5, none⟩ (.string tx)).setCell ⟨g1, done.length * 5 + 1, none⟩ (.int .i64 t1)).setCell ⟨g1, done.length * 5 + 2, none⟩ (.bool t2)).setCell ⟨g1, done.length * 5 + 3, none⟩ (.string t3)).setCell ⟨g1, done.length * 5 + 4, none⟩ (.slice Ak t4.length ck)) := by
                  have DE := dir_enda (tx := tx) (t1 := t1) (t2 := t2) (t3 := t3) HL.out.1 HL.out.2.1 HL.out.2.2 HQN.out HQW.out (Nat.le_refl _) H5.out Q5.out B5.out K5.out V6.out V7.out HRP.out HG1.out HAT1.out Q6.out HOWN1.out
                  exact ⟨done ++ [⟨tx, t1, t2, t3, t4⟩], l3, _, by rw [HK.out, HNJ.out, HKS.out, show n - (j + 1) = nj by have := HNJ.out; omega]; cases kidsR (nodeR m') nj l3 <;> simp, by rw [List.length_append, HDL.out]; rfl, DE.1, DE.2.1, DE.2.2.1, DE.2.2.2.1, DE.2.2.2.2⟩
                have EB : DInv g b q (13 - (m' : Int)) false nm kd ex dt w0 w (nodeR m') n l1 (j + 1) ((((((w1.setCell ⟨g1, done.length * 5, none⟩ (.string tx)).setCell ⟨g1, done.length * 5 + 1, none⟩ (.int .i64 t1)).setCell ⟨g1, done.length * 5 + 2, none⟩ (.bool t2)).setCell ⟨g1, done.length * 5 + 3, none⟩ (.string t3)).setCell ⟨g1, done.length * 5 + 4, none⟩ (.slice Ak t4.length ck)).setCell ⟨q, 4, none⟩ (.slice (some ⟨g1, 0, none⟩) (done.length + 1) c1)) := by
                  have DE := dir_endb (tx := tx) (t1 := t1) (t2 := t2) (t3 := t3) HL.out.1 HL.out.2.1 HL.out.2.2 HQN.out HQW.out (Nat.le_refl _) H5.out Q5.out B5.out K5.out V6.out V7.out HRP.out HG1.out HAT1.out Q6.out HOWN1.out
                  exact ⟨done ++ [⟨tx, t1, t2, t3, t4⟩], l3, _, by rw [HK.out, HNJ.out, HKS.out, show n - (j + 1) = nj by have := HNJ.out; omega]; cases kidsR (nodeR m') nj l3 <;> simp, by rw [List.length_append, HDL.out]; rfl, DE.1, DE.2.1, DE.2.2.1, DE.2.2.2.1, DE.2.2.2.2⟩
                have EA' := Aside0.mk EA
                have EB' := Aside0.mk EB
                refine ⟨_, _, _, ⟨j + 1, by omega, by go_num, ?_⟩, rfl, rfl, rfl⟩
                first | (with_reducible exact EA') | (with_reducible exact EB')
              case measure => simp [intOf]; omega
        · have hjn : j = n := by omega
          obtain ⟨done, lj, v, _, _, hr0, _⟩ := HI.out
          have c1 : wr.cell? ⟨g, 1, none⟩ = some (.int .i64 (13 - (m' : Int))) := (blk_cell hr0.1 1).trans rfl
          have hfz : wr.frozen? ⟨g, 1, none⟩ = false := blk_nofreeze hr0.1 1
          rw [hjn] at HI
          clear hr0
          have hltI : ¬ ((j : Int) < (n : Int)) := by omega
          go_wp2_with fail
          go_end0
          rw [← HPOST.out]
          exact dir_out HL.out.1 HQW.out HL.out.2.1 HL.out.2.2 HD.out HI.out _ (by rw [show (13 : Int) - (m' : Int) - 1 = 13 - ((m' + 1 : Nat) : Int) by omega])
  · have hni : (2000 : Int) < (n : Int) := by omega
    have hdn : decide ((n : Int) ≤ 2000) = false := decide_eq_false (by omega)
    go_wp2_with (first | (go_at_call 28; refine HMF.out.mono ?_; rintro e _ ⟨rfl, rfl⟩) | fail)
    refine ⟨rfl, ?_⟩
    rw [← HPOST.out]
    refine ⟨B1.out, ?_⟩
    have hd : dirH (kidF m) l = none := by
      unfold dirH
      cases hr : numR l with
      | none => rfl
      | some p =>
        have h0 := HN0.out
        rw [hr] at h0
        simp only [numOf] at h0
        simp only [Option.bind_some]
        cases kidF m with
        | none => rfl
        | some f => simp only; rw [if_neg (by omega)]
    rw [hd]
    exact .inl rfl
end Go.Proofs.Ytnnpfahlfmeakaa.PB

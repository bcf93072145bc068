import Derived.Test.YtnnpfahlfmeakaaQNarSize26
import Derived.Test.YtnnpfahlfmeakaaQNarSize27
namespace Go.Proofs.Ytnnpfahlfmeakaa.PB
open Go.RowKit Go.Proofs.Ytnnpfahlfmeakaa Go.Proofs.YtnnpfahlfmeakaaW.PrintWords Go.Proofs.YtnnpfahlfmeakaaW.PrintLast
set_option linter.unusedVariables false
set_option linter.unusedSimpArgs false
/-- A directory's reading, so many levels deep. -/
def DirC (m : Nat) : Prop := ∀ (g b q : Nat) (l : List UInt8) (lost : Bool) (nm : ByteArray) (kd : Int) (ex : Bool) (dt : ByteArray) (w0 w : World), RW w g b (13 - (m : Int)) l lost → (lost = true → l = []) → NAt w q nm kd ex dt (.slice none 0 0) → g < q → w0.heap.size ≤ b → Below w0.heap.size w0 w →
    Calls Try.prog 53 #[.pointer (some ⟨g, 0, none⟩), .pointer (some ⟨q, 0, none⟩)] w (DirPost g b q (13 - (m : Int)) lost nm kd ex dt w0 w (dirH (kidF m) l))
theorem node_fin {g b p0 : Nat} {d : Int} {l8 : List UInt8} {lost : Bool} {a0 a3 : ByteArray} {a1 : Int} {a2 : Bool} {v : Value} {ks : List Tree} {w0 w w8 : World} {c0 c1 c2 c3 c4 : Value} (H8 : RW w8 g b d l8 lost) (hgp : g < p0) (hp : w.heap.size ≤ p0) (hb : w0.heap.size ≤ p0) (B8 : Below w0.heap.size w0 w8) (K8 : Kept w w8 (fun k => k = b ∨ k = g))
    (Z8 : w8.heap[p0]? = some (.cells #[c0, c1, c2, c3, c4] 24 (0, 0))) (V8 : Kd.R k24 24 w8 (p0 + 1) (fun _ => True) v ks) :
    NAt (((((w8.setCell ⟨p0, 0, none⟩ (.string a0)).setCell ⟨p0, 1, none⟩ (.int .i64 a1)).setCell ⟨p0, 2, none⟩ (.bool a2)).setCell ⟨p0, 3, none⟩ (.string a3)).setCell ⟨p0, 4, none⟩ v) p0 a0 a1 a2 a3 v ∧ NodePost g b d lost w0 w (some (⟨a0, a1, a2, a3, ks⟩, l8)) (.returned (.agg #[.string a0, .int .i64 a1, .bool a2, .string a3, v])) (((((w8.setCell ⟨p0, 0, none⟩ (.string a0)).setCell ⟨p0, 1, none⟩ (.int .i64 a1)).setCell ⟨p0, 2, none⟩ (.bool a2)).setCell ⟨p0, 3, none⟩ (.string a3)).setCell ⟨p0, 4, none⟩ v) := by
  have s0 := (blk_store (l := [_, _, _, _, _]) Z8 0 (.string a0)).trans rfl
  have s1 := (blk_store (l := [_, _, _, _, _]) s0 1 (.int .i64 a1)).trans rfl
  have s2 := (blk_store (l := [_, _, _, _, _]) s1 2 (.bool a2)).trans rfl
  have s3 := (blk_store (l := [_, _, _, _, _]) s2 3 (.string a3)).trans rfl
  have s4 := (blk_store (l := [_, _, _, _, _]) s3 4 v).trans rfl
  have KK : Kept w8 (((((w8.setCell ⟨p0, 0, none⟩ (.string a0)).setCell ⟨p0, 1, none⟩ (.int .i64 a1)).setCell ⟨p0, 2, none⟩ (.bool a2)).setCell ⟨p0, 3, none⟩ (.string a3)).setCell ⟨p0, 4, none⟩ v) (fun k => k = p0) := (((((Kept.refl w8 (fun k => k = p0)).setCell (p := ⟨p0, 0, none⟩) (.inl rfl) (.string a0)).setCell (p := ⟨p0, 1, none⟩) (.inl rfl) (.int .i64 a1)).setCell (p := ⟨p0, 2, none⟩) (.inl rfl) (.bool a2)).setCell (p := ⟨p0, 3, none⟩) (.inl rfl) (.string a3)).setCell (p := ⟨p0, 4, none⟩) (.inl rfl) v
  have BB : Below w0.heap.size w0 (((((w8.setCell ⟨p0, 0, none⟩ (.string a0)).setCell ⟨p0, 1, none⟩ (.int .i64 a1)).setCell ⟨p0, 2, none⟩ (.bool a2)).setCell ⟨p0, 3, none⟩ (.string a3)).setCell ⟨p0, 4, none⟩ v) := ((((B8.setCell (by exact hb) _).setCell (by exact hb) _).setCell (by exact hb) _).setCell (by exact hb) _).setCell (by exact hb) _
  refine ⟨s4, BB, v, rfl, ?_, H8.keep KK (fun k hk e => by omega), K8.then_ KK (fun k hk => .inr (by omega))⟩
  refine Kd.R_lower (Kd.R_mono (Kd.R_kept (Kd.R_bound V8) KK (fun k hk e => by have := hk.2.1; omega)) (fun _ _ => trivial)) (by omega)
set_option maxRecDepth 100000 in
set_option maxHeartbeats 2000000 in
theorem rnode_calls (m : Nat) (hm : m ≤ 13) (ihm : DirC m) : NodeC m := by
  intro g b l lost w0 w h hlost hb hB
  have hu := Try.underlying24
  have hu2 := Try.underlying57
  have hum := Try.underlying80
  have hui := Try.underlying3
  obtain ⟨R, hR⟩ : ∃ R, NodePost g b (13 - (m : Int)) lost w0 w (nodeR m l) = R := ⟨_, rfl⟩
  rw [hR]
  have HPOST := Aside0.mk hR
  clear hR
  have H := Aside0.mk h
  have HB := Aside0.mk hB
  have HLO := Aside0.mk hlost
  have HL := Aside0.mk (And.intro h.2.1 hb)
  have HIH := Aside0.mk ihm
  have HHM := Aside0.mk hm
  have HA := Aside0.mk (below_alloc (Below.refl _ w) (.cells #[.string ⟨#[]⟩, .int .i64 0, .bool false, .string ⟨#[]⟩, .slice none 0 0] 24))
  have c0 : (w.alloc (.cells #[.string ⟨#[]⟩, .int .i64 0, .bool false, .string ⟨#[]⟩, .slice none 0 0] 24)).cell? ⟨g, 0, none⟩ = some (.pointer (some ⟨b, 0, none⟩)) := (blk_cell (blk_below h.1 HA.out) 0).trans rfl
  have HZ := Aside0.mk (show NAt (w.alloc (.cells #[.string ⟨#[]⟩, .int .i64 0, .bool false, .string ⟨#[]⟩, .slice none 0 0] 24)) w.heap.size ⟨#[]⟩ 0 false ⟨#[]⟩ (.slice none 0 0) from heap_alloc_new w (.cells #[.string ⟨#[]⟩, .int .i64 0, .bool false, .string ⟨#[]⟩, .slice none 0 0] 24))
  have HGW := Aside0.mk (show g < w.heap.size from blk_lt h.1)
  have HSZ := Aside0.mk (show (w.alloc (.cells #[.string ⟨#[]⟩, .int .i64 0, .bool false, .string ⟨#[]⟩, .slice none 0 0] 24)).heap.size = w.heap.size + 1 from Array.size_push _)
  have H1 := Aside0.mk (show RW (w.alloc (.cells #[.string ⟨#[]⟩, .int .i64 0, .bool false, .string ⟨#[]⟩, .slice none 0 0] 24)) g b (13 - (m : Int)) l lost from h.keep (Kept.of_below HA.out (fun _ => False)) (fun _ _ x => x))
  have B1 := Aside0.mk (below_then hB hB.size HA.out)
  obtain ⟨p0, hp0⟩ : ∃ p0, w.heap.size = p0 := ⟨_, rfl⟩
  have HP0 := Aside0.mk hp0
  clear h hlost hb hB ihm hm hp0
  go_enter Try.func30, Try.ntmps30
  go_wp2_with fail
  have HN := Aside0.mk (num_any b l lost (w.alloc (.cells #[.string ⟨#[]⟩, .int .i64 0, .bool false, .string ⟨#[]⟩, .slice none 0 0] 24)) H1.out.2.2)
  rw [HP0.out] at HZ HSZ HGW
  rw [HP0.out]
  generalize w.alloc (.cells #[.string ⟨#[]⟩, .int .i64 0, .bool false, .string ⟨#[]⟩, .slice none 0 0] 24) = W1 at HA HZ HSZ H1 B1 HN c0 ⊢
  clear c0
  refine HN.out.mono ?_
  rintro e w2 ⟨rfl, hr, hg⟩
  have H2 := Aside0.mk (H1.out.grown hg hr)
  have Z2 := Aside0.mk (HZ.out.grown hg (by have := HGW.out; have := HL.out; omega))
  have B2 := Aside0.mk (B1.out.grown hg B1.out.size (fun k hk => by injection hk with hk; rw [← hk]; exact HL.out.2))
  have K2 := Aside0.mk (Kept.of_grown (S := fun k => k = b ∨ k = g) hg (Kept.of_below HA.out _) (fun k hk => .inl (.inl (by injection hk with hk; exact hk.symm))))
  clear hr hg HN H1 HZ B1 HA
  have HD := Aside0.mk (show (numR l = none ∧ numOf (numR l) = 0 ∧ (after lost (numR l)) = ([], true)) ∨ (numR l = some (numOf (numR l), (after lost (numR l)).1) ∧ (after lost (numR l)).2 = lost) by
    cases hr : numR l with
    | none => exact .inl ⟨rfl, rfl, rfl⟩
    | some p => exact .inr ⟨rfl, rfl⟩)
  obtain ⟨st, hst⟩ : ∃ st, after lost (numR l) = st := ⟨_, rfl⟩
  obtain ⟨n, hn⟩ : ∃ n, numOf (numR l) = n := ⟨_, rfl⟩
  rw [hst] at H2
  rw [hst, hn] at HD
  rw [hn]
  obtain ⟨l1, lost1⟩ := st
  dsimp only at H2 HD
  clear hst hn
  have HZF := Aside0.mk (show ∀ W : World, (zeroValue 78).run Try.prog W = .ok .nilFunc W from fun W => by kernel_rfl)
  have HMT := Aside0.mk (must_true w2)
  have HMF := Aside0.mk (must_false w2)
  by_cases h3 : n ≤ 3
  · have h3i : (n : Int) ≤ 3 := by omega
    have h3d : decide ((n : Int) ≤ 3) = true := decide_eq_true h3i
    have hcase : n = 0 ∨ n = 1 ∨ n = 2 ∨ n = 3 := by omega
    rcases hcase with rfl | rfl | rfl | rfl
    · go_wp2_with (first | (go_at_call 28; refine HMT.out.mono ?_; rintro e _ ⟨rfl, rfl⟩) | fail)
      have AB := Aside0.mk (below_alloc (Below.refl _ w2) (.cells #[.string ⟨#[]⟩, .int .i64 0, .bool false, .string ⟨#[]⟩, .slice none 0 0] 24))
      have N3 := Aside0.mk (show NAt (w2.alloc (.cells #[.string ⟨#[]⟩, .int .i64 0, .bool false, .string ⟨#[]⟩, .slice none 0 0] 24)) w2.heap.size ⟨#[]⟩ 0 false ⟨#[]⟩ (.slice none 0 0) from heap_alloc_new w2 (.cells #[.string ⟨#[]⟩, .int .i64 0, .bool false, .string ⟨#[]⟩, .slice none 0 0] 24))
      have H3 := Aside0.mk (show RW (w2.alloc (.cells #[.string ⟨#[]⟩, .int .i64 0, .bool false, .string ⟨#[]⟩, .slice none 0 0] 24)) g b (13 - (m : Int)) l1 lost1 from H2.out.keep (Kept.of_below AB.out (fun _ => False)) (fun _ _ x => x))
      have Z3 := Aside0.mk (show NAt (w2.alloc (.cells #[.string ⟨#[]⟩, .int .i64 0, .bool false, .string ⟨#[]⟩, .slice none 0 0] 24)) p0 ⟨#[]⟩ 0 false ⟨#[]⟩ (.slice none 0 0) from blk_below Z2.out AB.out)
      have B3 := Aside0.mk (below_then B2.out B2.out.size AB.out)
      have K3 := Aside0.mk (K2.out.below AB.out)
      have HQ := Aside0.mk (show p0 < w2.heap.size from blk_lt Z2.out)
      generalize hq : w2.heap.size = q at N3 HQ ⊢
      generalize w2.alloc (.cells #[.string ⟨#[]⟩, .int .i64 0, .bool false, .string ⟨#[]⟩, .slice none 0 0] 24) = W3 at N3 H3 Z3 B3 K3 ⊢
      clear AB H2 Z2 B2 K2 HMT HMF hq
      have hmk := fun (t : TypeId) (W : World) => run_makeMap_any (P := Try.prog) t W
      have hmf : ∀ (fn : Fn) (first cap : Array Value) (W : World), (Instr.makeFunc fn first cap).run Try.prog W = .ok (.func fn first cap) W := fun _ _ _ _ => rfl
      rw [hmk]
      simp only [Result.andThen]
      obtain ⟨W5, W6, W7, m5, m6, m7, hb7, ha7⟩ := map3 (P := Try.prog) hum hui 1 3 2 (by decide) (by decide) (by decide) (.func (.func 51) #[.pointer (some ⟨g, 0, none⟩)] #[]) (.func (.func 52) #[.pointer (some ⟨g, 0, none⟩)] #[]) (.func (.func 53) #[.pointer (some ⟨g, 0, none⟩)] #[]) W3
      have hlk : (Instr.lookup 80 (.map (some W3.heap.size)) (.int .i64 0) true).run Try.prog W7 = .ok (.tuple #[.nilFunc, .bool false]) W7 := run_lookup_miss true hum hui (by simp [MapKept.IsKey]) ha7 rfl (HZF.out W7)
      have N7 := Aside0.mk (show NAt W7 q ⟨#[]⟩ 0 false ⟨#[]⟩ (.slice none 0 0) from blk_below N3.out hb7)
      have H7 := Aside0.mk (show RW W7 g b (13 - (m : Int)) l1 lost1 from H3.out.keep (Kept.of_below hb7 (fun _ => False)) (fun _ _ x => x))
      have Z7 := Aside0.mk (show NAt W7 p0 ⟨#[]⟩ 0 false ⟨#[]⟩ (.slice none 0 0) from blk_below Z3.out hb7)
      have B7 := Aside0.mk (below_then B3.out B3.out.size hb7)
      have K7 := Aside0.mk (K3.out.below hb7)
      have r1 := (blk_cell N7.out 1).trans (rfl : _ = some (Value.int .i64 0))
      have HMT := Aside0.mk (must_true W7)
      have HMF := Aside0.mk (must_false W7)
      clear N3 H3 Z3 B3 K3 hb7 ha7
      go_wp2_with (first | (go_at_call 28; refine HMF.out.mono ?_; rintro e _ ⟨rfl, rfl⟩) | fail)
      refine ⟨rfl, ?_⟩
      rw [← HPOST.out]
      refine ⟨B7.out, ?_⟩
      have hd : nodeR m l = none := by
        rw [nodeR_eq]
        rcases HD.out with ⟨h1, _⟩ | ⟨h1, _⟩
        · unfold nodeH; rw [h1]; rfl
        · unfold nodeH; rw [h1]; rfl
      rw [hd]
    · go_wp2_with (first | (go_at_call 28; refine HMT.out.mono ?_; rintro e _ ⟨rfl, rfl⟩) | fail)
      have AB := Aside0.mk (below_alloc (Below.refl _ w2) (.cells #[.string ⟨#[]⟩, .int .i64 1, .bool false, .string ⟨#[]⟩, .slice none 0 0] 24))
      have N3 := Aside0.mk (show NAt (w2.alloc (.cells #[.string ⟨#[]⟩, .int .i64 1, .bool false, .string ⟨#[]⟩, .slice none 0 0] 24)) w2.heap.size ⟨#[]⟩ 1 false ⟨#[]⟩ (.slice none 0 0) from heap_alloc_new w2 (.cells #[.string ⟨#[]⟩, .int .i64 1, .bool false, .string ⟨#[]⟩, .slice none 0 0] 24))
      have H3 := Aside0.mk (show RW (w2.alloc (.cells #[.string ⟨#[]⟩, .int .i64 1, .bool false, .string ⟨#[]⟩, .slice none 0 0] 24)) g b (13 - (m : Int)) l1 lost1 from H2.out.keep (Kept.of_below AB.out (fun _ => False)) (fun _ _ x => x))
      have Z3 := Aside0.mk (show NAt (w2.alloc (.cells #[.string ⟨#[]⟩, .int .i64 1, .bool false, .string ⟨#[]⟩, .slice none 0 0] 24)) p0 ⟨#[]⟩ 0 false ⟨#[]⟩ (.slice none 0 0) from blk_below Z2.out AB.out)
      have B3 := Aside0.mk (below_then B2.out B2.out.size AB.out)
      have K3 := Aside0.mk (K2.out.below AB.out)
      have HQ := Aside0.mk (show p0 < w2.heap.size from blk_lt Z2.out)
      generalize hq : w2.heap.size = q at N3 HQ ⊢
      generalize w2.alloc (.cells #[.string ⟨#[]⟩, .int .i64 1, .bool false, .string ⟨#[]⟩, .slice none 0 0] 24) = W3 at N3 H3 Z3 B3 K3 ⊢
      clear AB H2 Z2 B2 K2 HMT HMF hq
      have hmk := fun (t : TypeId) (W : World) => run_makeMap_any (P := Try.prog) t W
      have hmf : ∀ (fn : Fn) (first cap : Array Value) (W : World), (Instr.makeFunc fn first cap).run Try.prog W = .ok (.func fn first cap) W := fun _ _ _ _ => rfl
      rw [hmk]
      simp only [Result.andThen]
      obtain ⟨W5, W6, W7, m5, m6, m7, hb7, ha7⟩ := map3 (P := Try.prog) hum hui 1 3 2 (by decide) (by decide) (by decide) (.func (.func 51) #[.pointer (some ⟨g, 0, none⟩)] #[]) (.func (.func 52) #[.pointer (some ⟨g, 0, none⟩)] #[]) (.func (.func 53) #[.pointer (some ⟨g, 0, none⟩)] #[]) W3
      have hlk : (Instr.lookup 80 (.map (some W3.heap.size)) (.int .i64 1) true).run Try.prog W7 = .ok (.tuple #[(.func (.func 51) #[.pointer (some ⟨g, 0, none⟩)] #[]), .bool true]) W7 := run_lookup_hit true hum hui (by simp [MapKept.IsKey]) ha7 rfl
      have N7 := Aside0.mk (show NAt W7 q ⟨#[]⟩ 1 false ⟨#[]⟩ (.slice none 0 0) from blk_below N3.out hb7)
      have H7 := Aside0.mk (show RW W7 g b (13 - (m : Int)) l1 lost1 from H3.out.keep (Kept.of_below hb7 (fun _ => False)) (fun _ _ x => x))
      have Z7 := Aside0.mk (show NAt W7 p0 ⟨#[]⟩ 0 false ⟨#[]⟩ (.slice none 0 0) from blk_below Z3.out hb7)
      have B7 := Aside0.mk (below_then B3.out B3.out.size hb7)
      have K7 := Aside0.mk (K3.out.below hb7)
      have r1 := (blk_cell N7.out 1).trans (rfl : _ = some (Value.int .i64 1))
      have HMT := Aside0.mk (must_true W7)
      have HMF := Aside0.mk (must_false W7)
      clear N3 H3 Z3 B3 K3 hb7 ha7
      obtain ⟨hnr, rfl⟩ : numR l = some (1, l1) ∧ lost1 = lost := by
        rcases HD.out with ⟨_, h, _⟩ | ⟨h1, h2⟩
        · cases h
        · exact ⟨h1, h2⟩
      have hlo : lost1 = false := by
        cases hlo : lost1 with
        | false => rfl
        | true => rw [HLO.out hlo] at hnr; cases hnr
      subst hlo
      have HNR := Aside0.mk hnr
      clear hnr HD
      have HC := Aside0.mk (rfile_calls g b q (13 - (m : Int)) l1 false ⟨#[]⟩ 1 false ⟨#[]⟩ (.slice none 0 0) w0 W7 H7.out N7.out (by have := HGW.out; have := HQ.out; omega) HL.out.2 B7.out)
      by_cases he : numOf (numR l1) ≤ 1
      · simp only [if_pos he] at HC
        obtain ⟨st8, hst8⟩ : ∃ st8, after (after false (numR l1)).2 (textR (after false (numR l1)).1) = st8 := ⟨_, rfl⟩
        obtain ⟨ex, hex⟩ : ∃ ex, (numOf (numR l1) == 1) = ex := ⟨_, rfl⟩
        obtain ⟨dt, hdt⟩ : ∃ dt, str (textOf (textR (after false (numR l1)).1)) = dt := ⟨_, rfl⟩
        have HSEM := Aside0.mk (show nodeR m l = if st8.2 then none else some (⟨⟨#[]⟩, 1, ex, dt, []⟩, st8.1) from by
          rw [nodeR_eq]; unfold nodeH; rw [HNR.out]
          simp only [Option.bind_some, if_true]
          rw [← hst8, ← hex, ← hdt]
          cases hr : numR l1 with
          | none => rfl
          | some e =>
            rw [hr] at he
            simp only [numOf] at he ⊢
            simp only [Option.bind_some]
            rw [if_pos he]
            show ((textR e.2).bind fun d => some ((⟨⟨#[]⟩, 1, e.1 == 1, str d.1, []⟩ : Tree), d.2)) = _
            cases ht : textR e.2 with
            | none => show none = if (after false (textR e.2)).2 = true then none else _; rw [ht]; rfl
            | some d => show _ = if (after false (textR e.2)).2 = true then none else some (_, (after false (textR e.2)).1); rw [ht]; simp only [after, textOf]; rw [ht]; rfl)
        rw [hst8, hex, hdt] at HC
        clear hst8 hex hdt he
        obtain ⟨l8, lost8⟩ := st8
        dsimp only at HC HSEM
        go_wp2_with (first | (go_at_call 28; refine HMT.out.mono ?_; rintro e _ ⟨rfl, rfl⟩) | fail)
        refine HC.out.mono ?_
        rintro e w8 ⟨hb8, hk8, rfl, hr8, hn8⟩
        have H8 := Aside0.mk hr8
        have N8 := Aside0.mk hn8
        have B8 := Aside0.mk hb8
        have Z8 := Aside0.mk (show NAt w8 p0 ⟨#[]⟩ 0 false ⟨#[]⟩ (.slice none 0 0) from blk_kept Z7.out hk8 (by have := HGW.out; have := HQ.out; have := HL.out; omega))
        have K8 := Aside0.mk (K7.out.then_ hk8 (fun k hk => by rcases hk with hk | hk; exact .inl (.inl hk); right; rw [HP0.out]; have := HQ.out; omega))
        clear hb8 hk8 hr8 hn8 H7 N7 Z7 B7 K7 HC HMT HMF r1
        have HOK := Aside0.mk (ok_any b l8 lost8 w8 H8.out.2.2)
        have HMT := Aside0.mk (must_true w8)
        have HMF := Aside0.mk (must_false w8)
        have c0 : w8.cell? ⟨g, 0, none⟩ = some (.pointer (some ⟨b, 0, none⟩)) := (blk_cell H8.out.1 0).trans rfl
        cases lost8 with
        | true =>
          go_wp2_with (first | (go_at_call 54; refine HOK.out.mono ?_; rintro e _ ⟨rfl, rfl⟩) | (go_at_call 28; refine HMF.out.mono ?_; rintro e _ ⟨rfl, rfl⟩) | fail)
          refine ⟨rfl, ?_⟩
          rw [← HPOST.out]
          refine ⟨B8.out, ?_⟩
          rw [HSEM.out]
          rfl
        | false =>
          have r0 := (blk_cell N8.out 0).trans (rfl : _ = some (Value.string ⟨#[]⟩))
          have r1 := (blk_cell N8.out 1).trans (rfl : _ = some (Value.int .i64 1))
          have r2 := (blk_cell N8.out 2).trans (rfl : _ = some (Value.bool ex))
          have r3 := (blk_cell N8.out 3).trans (rfl : _ = some (Value.string dt))
          have r4 := (blk_cell N8.out 4).trans (rfl : _ = some (Value.slice none 0 0))
          have z0 := (blk_cell Z8.out 0).trans (rfl : _ = some (Value.string ⟨#[]⟩))
          have z1 := (blk_cell Z8.out 1).trans (rfl : _ = some (Value.int .i64 0))
          have z2 := (blk_cell Z8.out 2).trans (rfl : _ = some (Value.bool false))
          have z3 := (blk_cell Z8.out 3).trans (rfl : _ = some (Value.string ⟨#[]⟩))
          have z4 := (blk_cell Z8.out 4).trans (rfl : _ = some (Value.slice none 0 0))
          have y0 := blk_nofreeze Z8.out 0
          have y1 := blk_nofreeze Z8.out 1
          have y2 := blk_nofreeze Z8.out 2
          have y3 := blk_nofreeze Z8.out 3
          have y4 := blk_nofreeze Z8.out 4
          go_wp2_with (first | (go_at_call 54; refine HOK.out.mono ?_; rintro e _ ⟨rfl, rfl⟩) | (go_at_call 28; refine HMT.out.mono ?_; rintro e _ ⟨rfl, rfl⟩) | fail)
          have FIN := node_fin (a0 := ⟨#[]⟩) (a1 := 1) (a2 := ex) (a3 := dt) (ks := []) H8.out (by have := HGW.out; omega) (by rw [HP0.out]; exact Nat.le_refl _) (by have := HGW.out; have := HL.out; omega) B8.out K8.out Z8.out (Kd.R_nil _ _ _ _ _)
          refine bodyPost_ret (results_cell_row rfl _ _ p0 24 #[.string ⟨#[]⟩, .int .i64 1, .bool ex, .string dt, .slice none 0 0] (0, 0) _ rfl FIN.1 Try.underlying24 rfl (by kernel_rfl)) rfl ?_
          rw [← HPOST.out, HSEM.out]
          exact FIN.2
      · simp only [if_neg he] at HC
        have hd : nodeR m l = none := by
          rw [nodeR_eq]; unfold nodeH; rw [HNR.out]
          simp only [Option.bind_some, if_true]
          cases hr : numR l1 with
          | none => rfl
          | some e =>
            rw [hr] at he
            simp only [numOf] at he
            simp only [Option.bind_some]
            rw [if_neg he]
        have HD0 := Aside0.mk hd
        clear hd he
        go_wp2_with (first | (go_at_call 28; refine HMT.out.mono ?_; rintro e _ ⟨rfl, rfl⟩) | fail)
        refine HC.out.mono ?_
        rintro e w8 ⟨hb8, rfl⟩
        have B8 := Aside0.mk hb8
        clear hb8
        go_wp2
        refine ⟨rfl, ?_⟩
        rw [← HPOST.out]
        refine ⟨B8.out, ?_⟩
        rw [HD0.out]
    · go_wp2_with (first | (go_at_call 28; refine HMT.out.mono ?_; rintro e _ ⟨rfl, rfl⟩) | fail)
      have AB := Aside0.mk (below_alloc (Below.refl _ w2) (.cells #[.string ⟨#[]⟩, .int .i64 2, .bool false, .string ⟨#[]⟩, .slice none 0 0] 24))
      have N3 := Aside0.mk (show NAt (w2.alloc (.cells #[.string ⟨#[]⟩, .int .i64 2, .bool false, .string ⟨#[]⟩, .slice none 0 0] 24)) w2.heap.size ⟨#[]⟩ 2 false ⟨#[]⟩ (.slice none 0 0) from heap_alloc_new w2 (.cells #[.string ⟨#[]⟩, .int .i64 2, .bool false, .string ⟨#[]⟩, .slice none 0 0] 24))
      have H3 := Aside0.mk (show RW (w2.alloc (.cells #[.string ⟨#[]⟩, .int .i64 2, .bool false, .string ⟨#[]⟩, .slice none 0 0] 24)) g b (13 - (m : Int)) l1 lost1 from H2.out.keep (Kept.of_below AB.out (fun _ => False)) (fun _ _ x => x))
      have Z3 := Aside0.mk (show NAt (w2.alloc (.cells #[.string ⟨#[]⟩, .int .i64 2, .bool false, .string ⟨#[]⟩, .slice none 0 0] 24)) p0 ⟨#[]⟩ 0 false ⟨#[]⟩ (.slice none 0 0) from blk_below Z2.out AB.out)
      have B3 := Aside0.mk (below_then B2.out B2.out.size AB.out)
      have K3 := Aside0.mk (K2.out.below AB.out)
      have HQ := Aside0.mk (show p0 < w2.heap.size from blk_lt Z2.out)
      generalize hq : w2.heap.size = q at N3 HQ ⊢
      generalize w2.alloc (.cells #[.string ⟨#[]⟩, .int .i64 2, .bool false, .string ⟨#[]⟩, .slice none 0 0] 24) = W3 at N3 H3 Z3 B3 K3 ⊢
      clear AB H2 Z2 B2 K2 HMT HMF hq
      have hmk := fun (t : TypeId) (W : World) => run_makeMap_any (P := Try.prog) t W
      have hmf : ∀ (fn : Fn) (first cap : Array Value) (W : World), (Instr.makeFunc fn first cap).run Try.prog W = .ok (.func fn first cap) W := fun _ _ _ _ => rfl
      rw [hmk]
      simp only [Result.andThen]
      obtain ⟨W5, W6, W7, m5, m6, m7, hb7, ha7⟩ := map3 (P := Try.prog) hum hui 1 3 2 (by decide) (by decide) (by decide) (.func (.func 51) #[.pointer (some ⟨g, 0, none⟩)] #[]) (.func (.func 52) #[.pointer (some ⟨g, 0, none⟩)] #[]) (.func (.func 53) #[.pointer (some ⟨g, 0, none⟩)] #[]) W3
      have hlk : (Instr.lookup 80 (.map (some W3.heap.size)) (.int .i64 2) true).run Try.prog W7 = .ok (.tuple #[(.func (.func 53) #[.pointer (some ⟨g, 0, none⟩)] #[]), .bool true]) W7 := run_lookup_hit true hum hui (by simp [MapKept.IsKey]) ha7 rfl
      have N7 := Aside0.mk (show NAt W7 q ⟨#[]⟩ 2 false ⟨#[]⟩ (.slice none 0 0) from blk_below N3.out hb7)
      have H7 := Aside0.mk (show RW W7 g b (13 - (m : Int)) l1 lost1 from H3.out.keep (Kept.of_below hb7 (fun _ => False)) (fun _ _ x => x))
      have Z7 := Aside0.mk (show NAt W7 p0 ⟨#[]⟩ 0 false ⟨#[]⟩ (.slice none 0 0) from blk_below Z3.out hb7)
      have B7 := Aside0.mk (below_then B3.out B3.out.size hb7)
      have K7 := Aside0.mk (K3.out.below hb7)
      have r1 := (blk_cell N7.out 1).trans (rfl : _ = some (Value.int .i64 2))
      have HMT := Aside0.mk (must_true W7)
      have HMF := Aside0.mk (must_false W7)
      clear N3 H3 Z3 B3 K3 hb7 ha7
      obtain ⟨hnr, rfl⟩ : numR l = some (2, l1) ∧ lost1 = lost := by
        rcases HD.out with ⟨_, h, _⟩ | ⟨h1, h2⟩
        · cases h
        · exact ⟨h1, h2⟩
      have hlo : lost1 = false := by
        cases hlo : lost1 with
        | false => rfl
        | true => rw [HLO.out hlo] at hnr; cases hnr
      subst hlo
      have HNR := Aside0.mk hnr
      clear hnr HD
      have HC := Aside0.mk (HIH.out g b q l1 false ⟨#[]⟩ 2 false ⟨#[]⟩ w0 W7 H7.out (fun h => by cases h) N7.out (by have := HGW.out; have := HQ.out; omega) HL.out.2 B7.out)
      have HSEM := Aside0.mk (show nodeR m l = (dirH (kidF m) l1).bind fun d => some (⟨⟨#[]⟩, 2, false, ⟨#[]⟩, d.1⟩, d.2) from by
        rw [nodeR_eq]; unfold nodeH; rw [HNR.out]
        simp only [Option.bind_some]
        first | rw [if_neg (by decide), if_neg (by decide), if_pos trivial] | rw [if_neg (by decide), if_neg (by decide), if_pos rfl])
      have HQW7 := Aside0.mk (show q < W7.heap.size from blk_lt N7.out)
      cases hres : dirH (kidF m) l1 with
      | none =>
        rw [hres] at HC HSEM
        clear hres
        go_wp2_with (first | (go_at_call 28; refine HMT.out.mono ?_; rintro e _ ⟨rfl, rfl⟩) | fail)
        refine HC.out.mono ?_
        rintro e w8 ⟨hb8, hr8⟩
        have B8 := Aside0.mk hb8
        clear hb8
        rcases hr8 with rfl | ⟨rfl, hr8⟩
        · go_wp2
          refine ⟨rfl, ?_⟩
          rw [← HPOST.out]
          refine ⟨B8.out, ?_⟩
          rw [HSEM.out]
          rfl
        · have H8 := Aside0.mk hr8
          have HOK := Aside0.mk (ok_any b [] true w8 H8.out.2.2)
          have HMF := Aside0.mk (must_false w8)
          have c0 : w8.cell? ⟨g, 0, none⟩ = some (.pointer (some ⟨b, 0, none⟩)) := (blk_cell H8.out.1 0).trans rfl
          clear hr8 HMT H7 N7 Z7 B7 K7 HC r1
          go_wp2_with (first | (go_at_call 54; refine HOK.out.mono ?_; rintro e _ ⟨rfl, rfl⟩) | (go_at_call 28; refine HMF.out.mono ?_; rintro e _ ⟨rfl, rfl⟩) | fail)
          refine ⟨rfl, ?_⟩
          rw [← HPOST.out]
          refine ⟨B8.out, ?_⟩
          rw [HSEM.out]
          rfl
      | some res =>
        obtain ⟨ks, l8⟩ := res
        rw [hres] at HC HSEM
        clear hres
        go_wp2_with (first | (go_at_call 28; refine HMT.out.mono ?_; rintro e _ ⟨rfl, rfl⟩) | fail)
        refine HC.out.mono ?_
        rintro e w8 ⟨hb8, v, rfl, hv8, hr8, hn8, hk8⟩
        obtain ⟨Av, cv, rfl⟩ := Kd.R_slice hv8
        have H8 := Aside0.mk hr8
        have N8 := Aside0.mk hn8
        have B8 := Aside0.mk hb8
        have Z8 := Aside0.mk (show NAt w8 p0 ⟨#[]⟩ 0 false ⟨#[]⟩ (.slice none 0 0) from blk_kept Z7.out hk8 (by have := HGW.out; have := HQ.out; have := HL.out; omega))
        have K8 := Aside0.mk (K7.out.then_ hk8 (fun k hk => by rcases hk with hk | hk | hk; exact .inl (.inl hk); exact .inl (.inr hk); right; rw [HP0.out]; have := HQ.out; omega))
        have V8 := Aside0.mk (Kd.R_lower (base' := p0 + 1) hv8 (by have := HQW7.out; have := HQ.out; omega))
        clear hb8 hk8 hr8 hn8 hv8 H7 N7 Z7 B7 K7 HC HMT HMF r1
        have HOK := Aside0.mk (ok_any b l8 false w8 H8.out.2.2)
        have HMT := Aside0.mk (must_true w8)
        have c0 : w8.cell? ⟨g, 0, none⟩ = some (.pointer (some ⟨b, 0, none⟩)) := (blk_cell H8.out.1 0).trans rfl
        have r0 := (blk_cell N8.out 0).trans (rfl : _ = some (Value.string ⟨#[]⟩))
        have r1 := (blk_cell N8.out 1).trans (rfl : _ = some (Value.int .i64 2))
        have r2 := (blk_cell N8.out 2).trans (rfl : _ = some (Value.bool false))
        have r3 := (blk_cell N8.out 3).trans (rfl : _ = some (Value.string ⟨#[]⟩))
        have r4 := (blk_cell N8.out 4).trans (rfl : _ = some (Value.slice Av ks.length cv))
        have z0 := (blk_cell Z8.out 0).trans (rfl : _ = some (Value.string ⟨#[]⟩))
        have z1 := (blk_cell Z8.out 1).trans (rfl : _ = some (Value.int .i64 0))
        have z2 := (blk_cell Z8.out 2).trans (rfl : _ = some (Value.bool false))
        have z3 := (blk_cell Z8.out 3).trans (rfl : _ = some (Value.string ⟨#[]⟩))
        have z4 := (blk_cell Z8.out 4).trans (rfl : _ = some (Value.slice none 0 0))
        have y0 := blk_nofreeze Z8.out 0
        have y1 := blk_nofreeze Z8.out 1
        have y2 := blk_nofreeze Z8.out 2
        have y3 := blk_nofreeze Z8.out 3
        have y4 := blk_nofreeze Z8.out 4
        go_wp2_with (first | (go_at_call 54; refine HOK.out.mono ?_; rintro e _ ⟨rfl, rfl⟩) | (go_at_call 28; refine HMT.out.mono ?_; rintro e _ ⟨rfl, rfl⟩) | fail)
        have FIN := node_fin (a0 := ⟨#[]⟩) (a1 := 2) (a2 := false) (a3 := ⟨#[]⟩) (ks := ks) H8.out (by have := HGW.out; omega) (by rw [HP0.out]; exact Nat.le_refl _) (by have := HGW.out; have := HL.out; omega) B8.out K8.out Z8.out V8.out
        refine bodyPost_ret (results_cell_row rfl _ _ p0 24 #[.string ⟨#[]⟩, .int .i64 2, .bool false, .string ⟨#[]⟩, .slice Av ks.length cv] (0, 0) _ rfl FIN.1 Try.underlying24 rfl (by kernel_rfl)) rfl ?_
        rw [← HPOST.out, HSEM.out]
        exact FIN.2
    · go_wp2_with (first | (go_at_call 28; refine HMT.out.mono ?_; rintro e _ ⟨rfl, rfl⟩) | fail)
      have AB := Aside0.mk (below_alloc (Below.refl _ w2) (.cells #[.string ⟨#[]⟩, .int .i64 3, .bool false, .string ⟨#[]⟩, .slice none 0 0] 24))
      have N3 := Aside0.mk (show NAt (w2.alloc (.cells #[.string ⟨#[]⟩, .int .i64 3, .bool false, .string ⟨#[]⟩, .slice none 0 0] 24)) w2.heap.size ⟨#[]⟩ 3 false ⟨#[]⟩ (.slice none 0 0) from heap_alloc_new w2 (.cells #[.string ⟨#[]⟩, .int .i64 3, .bool false, .string ⟨#[]⟩, .slice none 0 0] 24))
      have H3 := Aside0.mk (show RW (w2.alloc (.cells #[.string ⟨#[]⟩, .int .i64 3, .bool false, .string ⟨#[]⟩, .slice none 0 0] 24)) g b (13 - (m : Int)) l1 lost1 from H2.out.keep (Kept.of_below AB.out (fun _ => False)) (fun _ _ x => x))
      have Z3 := Aside0.mk (show NAt (w2.alloc (.cells #[.string ⟨#[]⟩, .int .i64 3, .bool false, .string ⟨#[]⟩, .slice none 0 0] 24)) p0 ⟨#[]⟩ 0 false ⟨#[]⟩ (.slice none 0 0) from blk_below Z2.out AB.out)
      have B3 := Aside0.mk (below_then B2.out B2.out.size AB.out)
      have K3 := Aside0.mk (K2.out.below AB.out)
      have HQ := Aside0.mk (show p0 < w2.heap.size from blk_lt Z2.out)
      generalize hq : w2.heap.size = q at N3 HQ ⊢
      generalize w2.alloc (.cells #[.string ⟨#[]⟩, .int .i64 3, .bool false, .string ⟨#[]⟩, .slice none 0 0] 24) = W3 at N3 H3 Z3 B3 K3 ⊢
      clear AB H2 Z2 B2 K2 HMT HMF hq
      have hmk := fun (t : TypeId) (W : World) => run_makeMap_any (P := Try.prog) t W
      have hmf : ∀ (fn : Fn) (first cap : Array Value) (W : World), (Instr.makeFunc fn first cap).run Try.prog W = .ok (.func fn first cap) W := fun _ _ _ _ => rfl
      rw [hmk]
      simp only [Result.andThen]
      obtain ⟨W5, W6, W7, m5, m6, m7, hb7, ha7⟩ := map3 (P := Try.prog) hum hui 1 3 2 (by decide) (by decide) (by decide) (.func (.func 51) #[.pointer (some ⟨g, 0, none⟩)] #[]) (.func (.func 52) #[.pointer (some ⟨g, 0, none⟩)] #[]) (.func (.func 53) #[.pointer (some ⟨g, 0, none⟩)] #[]) W3
      have hlk : (Instr.lookup 80 (.map (some W3.heap.size)) (.int .i64 3) true).run Try.prog W7 = .ok (.tuple #[(.func (.func 52) #[.pointer (some ⟨g, 0, none⟩)] #[]), .bool true]) W7 := run_lookup_hit true hum hui (by simp [MapKept.IsKey]) ha7 rfl
      have N7 := Aside0.mk (show NAt W7 q ⟨#[]⟩ 3 false ⟨#[]⟩ (.slice none 0 0) from blk_below N3.out hb7)
      have H7 := Aside0.mk (show RW W7 g b (13 - (m : Int)) l1 lost1 from H3.out.keep (Kept.of_below hb7 (fun _ => False)) (fun _ _ x => x))
      have Z7 := Aside0.mk (show NAt W7 p0 ⟨#[]⟩ 0 false ⟨#[]⟩ (.slice none 0 0) from blk_below Z3.out hb7)
      have B7 := Aside0.mk (below_then B3.out B3.out.size hb7)
      have K7 := Aside0.mk (K3.out.below hb7)
      have r1 := (blk_cell N7.out 1).trans (rfl : _ = some (Value.int .i64 3))
      have HMT := Aside0.mk (must_true W7)
      have HMF := Aside0.mk (must_false W7)
      clear N3 H3 Z3 B3 K3 hb7 ha7
      obtain ⟨hnr, rfl⟩ : numR l = some (3, l1) ∧ lost1 = lost := by
        rcases HD.out with ⟨_, h, _⟩ | ⟨h1, h2⟩
        · cases h
        · exact ⟨h1, h2⟩
      have hlo : lost1 = false := by
        cases hlo : lost1 with
        | false => rfl
        | true => rw [HLO.out hlo] at hnr; cases hnr
      subst hlo
      have HNR := Aside0.mk hnr
      clear hnr HD
      have HC := Aside0.mk (rlink_calls g b q (13 - (m : Int)) l1 false ⟨#[]⟩ 3 false ⟨#[]⟩ (.slice none 0 0) w0 W7 H7.out N7.out (by have := HGW.out; have := HQ.out; omega) HL.out.2 B7.out)
      obtain ⟨st8, hst8⟩ : ∃ st8, after false (textR l1) = st8 := ⟨_, rfl⟩
      obtain ⟨dt, hdt⟩ : ∃ dt, str (textOf (textR l1)) = dt := ⟨_, rfl⟩
      have HSEM := Aside0.mk (show nodeR m l = if st8.2 then none else some (⟨⟨#[]⟩, 3, false, dt, []⟩, st8.1) from by
        rw [nodeR_eq]; unfold nodeH; rw [HNR.out]
        simp only [Option.bind_some]
        rw [if_neg (by decide), if_pos trivial, ← hst8, ← hdt]
        cases ht : textR l1 with
        | none => rfl
        | some d => rfl)
      rw [hst8, hdt] at HC
      clear hst8 hdt
      obtain ⟨l8, lost8⟩ := st8
      dsimp only at HC HSEM
      go_wp2_with (first | (go_at_call 28; refine HMT.out.mono ?_; rintro e _ ⟨rfl, rfl⟩) | fail)
      refine HC.out.mono ?_
      rintro e w8 ⟨hb8, hk8, rfl, hr8, hn8⟩
      have H8 := Aside0.mk hr8
      have N8 := Aside0.mk hn8
      have B8 := Aside0.mk hb8
      have Z8 := Aside0.mk (show NAt w8 p0 ⟨#[]⟩ 0 false ⟨#[]⟩ (.slice none 0 0) from blk_kept Z7.out hk8 (by have := HGW.out; have := HQ.out; have := HL.out; omega))
      have K8 := Aside0.mk (K7.out.then_ hk8 (fun k hk => by rcases hk with hk | hk; exact .inl (.inl hk); right; rw [HP0.out]; have := HQ.out; omega))
      clear hb8 hk8 hr8 hn8 H7 N7 Z7 B7 K7 HC HMT HMF r1
      have HOK := Aside0.mk (ok_any b l8 lost8 w8 H8.out.2.2)
      have HMT := Aside0.mk (must_true w8)
      have HMF := Aside0.mk (must_false w8)
      have c0 : w8.cell? ⟨g, 0, none⟩ = some (.pointer (some ⟨b, 0, none⟩)) := (blk_cell H8.out.1 0).trans rfl
      cases lost8 with
      | true =>
        go_wp2_with (first | (go_at_call 54; refine HOK.out.mono ?_; rintro e _ ⟨rfl, rfl⟩) | (go_at_call 28; refine HMF.out.mono ?_; rintro e _ ⟨rfl, rfl⟩) | fail)
        refine ⟨rfl, ?_⟩
        rw [← HPOST.out]
        refine ⟨B8.out, ?_⟩
        rw [HSEM.out]
        rfl
      | false =>
        have r0 := (blk_cell N8.out 0).trans (rfl : _ = some (Value.string ⟨#[]⟩))
        have r1 := (blk_cell N8.out 1).trans (rfl : _ = some (Value.int .i64 3))
        have r2 := (blk_cell N8.out 2).trans (rfl : _ = some (Value.bool false))
        have r3 := (blk_cell N8.out 3).trans (rfl : _ = some (Value.string dt))
        have r4 := (blk_cell N8.out 4).trans (rfl : _ = some (Value.slice none 0 0))
        have z0 := (blk_cell Z8.out 0).trans (rfl : _ = some (Value.string ⟨#[]⟩))
        have z1 := (blk_cell Z8.out 1).trans (rfl : _ = some (Value.int .i64 0))
        have z2 := (blk_cell Z8.out 2).trans (rfl : _ = some (Value.bool false))
        have z3 := (blk_cell Z8.out 3).trans (rfl : _ = some (Value.string ⟨#[]⟩))
        have z4 := (blk_cell Z8.out 4).trans (rfl : _ = some (Value.slice none 0 0))
        have y0 := blk_nofreeze Z8.out 0
        have y1 := blk_nofreeze Z8.out 1
        have y2 := blk_nofreeze Z8.out 2
        have y3 := blk_nofreeze Z8.out 3
        have y4 := blk_nofreeze Z8.out 4
        go_wp2_with (first | (go_at_call 54; refine HOK.out.mono ?_; rintro e _ ⟨rfl, rfl⟩) | (go_at_call 28; refine HMT.out.mono ?_; rintro e _ ⟨rfl, rfl⟩) | fail)
        have FIN := node_fin (a0 := ⟨#[]⟩) (a1 := 3) (a2 := false) (a3 := dt) (ks := []) H8.out (by have := HGW.out; omega) (by rw [HP0.out]; exact Nat.le_refl _) (by have := HGW.out; have := HL.out; omega) B8.out K8.out Z8.out (Kd.R_nil _ _ _ _ _)
        refine bodyPost_ret (results_cell_row rfl _ _ p0 24 #[.string ⟨#[]⟩, .int .i64 3, .bool false, .string dt, .slice none 0 0] (0, 0) _ rfl FIN.1 Try.underlying24 rfl (by kernel_rfl)) rfl ?_
        rw [← HPOST.out, HSEM.out]
        exact FIN.2
  · have h3i : (3 : Int) < (n : Int) := by omega
    have h3d : decide ((n : Int) ≤ 3) = false := decide_eq_false (by omega)
    go_wp2_with (first | (go_at_call 28; refine HMF.out.mono ?_; rintro e _ ⟨rfl, rfl⟩) | fail)
    refine ⟨rfl, ?_⟩
    rw [← HPOST.out]
    refine ⟨B2.out, ?_⟩
    have hd : nodeR m l = none := by
      rw [nodeR_eq]
      rcases HD.out with ⟨h1, _⟩ | ⟨h1, _⟩
      · unfold nodeH; rw [h1]; rfl
      · unfold nodeH; rw [h1]; simp only [Option.bind_some]; rw [if_neg (by omega), if_neg (by omega), if_neg (by omega)]
    rw [hd]
end Go.Proofs.Ytnnpfahlfmeakaa.PB
namespace Go.Proofs.Ytnnpfahlfmeakaa.PB
open Go.RowKit Go.Proofs.Ytnnpfahlfmeakaa Go.Proofs.YtnnpfahlfmeakaaW.PrintWords Go.Proofs.YtnnpfahlfmeakaaW.PrintLast
/-- A node's reading, whatever stands there. -/
theorem nodeC_all : ∀ (m : Nat), m ≤ 13 → NodeC m
  | 0, h => rnode_calls 0 h (fun g b q l lost nm kd ex dt w0 w h1 h2 h3 h4 h5 h6 => rdir_calls 0 h (fun m' e => by cases e) g b q l lost nm kd ex dt w0 w h1 h2 h3 h4 h5 h6)
  | m + 1, h => rnode_calls (m + 1) h (fun g b q l lost nm kd ex dt w0 w h1 h2 h3 h4 h5 h6 => rdir_calls (m + 1) h (fun m' e => by injection e with e; subst e; exact nodeC_all m (by omega)) g b q l lost nm kd ex dt w0 w h1 h2 h3 h4 h5 h6)
end Go.Proofs.Ytnnpfahlfmeakaa.PB

import Derived.Maps.OwnIn
import Derived.Maps.AppendAt
import Derived.Test.YtalljcjignaafaaDoorQTreeKnown16
import Derived.Test.YtalljcjignaafaaDoorQTreeKnown18
namespace Go.Proofs.YtalljcjignaafaaDoor.PB
open Go Go.RowKit Go.Proofs.YtalljcjignaafaaDoor Go.Proofs.YtalljcjignaafaaDoorW.PrintWords Go.Proofs.YtalljcjignaafaaDoorW.PrintLast
attribute [local go_sem] Oper.semAt_some
set_option linter.unusedVariables false
set_option linter.unusedSimpArgs false
def eachK (ks : List Tree) (m : Nat) : List ByteArray := (List.range m).flatMap (fun (j : Nat) => pathsP (rd_T24 ks (j : Int)) (rd_T24 ks (j : Int)).f0)
def eachP (t : Tree) : List ByteArray := if 12 < depthP t ∨ t.f1 ≠ 2 then [] else eachK t.f4 t.f4.length
theorem eachK_succ (ks : List Tree) (m : Nat) : eachK ks (m + 1) = eachK ks m ++ pathsP (rd_T24 ks (m : Int)) (rd_T24 ks (m : Int)).f0 := by simp [eachK, List.range_succ]
theorem eachK_le (ks : List Tree) {j m : Nat} (h : j ≤ m) : (eachK ks j).length ≤ (eachK ks m).length := by
  induction h with
  | refl => exact Nat.le_refl _
  | step h ih => rw [eachK_succ, List.length_append]; omega
theorem res_each (tmps : Array Value) (W : World) : (results Tryd.f10 tmps).run Tryd.prog W = .ok (tmps.getD 2 undef) W := by
  simp [results, show Tryd.f10.results = #[.tmp 2] from rfl]
theorem infoStr : (Tryd.prog.info? 9).map (fun i => (i.zero, i.size, i.bytes)) = some (some (.string ⟨#[]⟩), 1, 16) := by kernel_rfl
/-- The kid that is met. -/
def KidE (w0 : World) (ad : Addr) (ks : List Tree) (j : Nat) (G : Option Addr × Nat × List (Array Value)) : Prop :=
  w0.cell? (ad.add (j * 5)) = some (.string (rd_T24 ks (j : Int)).f0) ∧ w0.cell? ⟨(ad.add (j * 5)).block, (ad.add (j * 5)).off + 1, none⟩ = some (.int .i64 (rd_T24 ks (j : Int)).f1) ∧ w0.cell? ⟨(ad.add (j * 5)).block, (ad.add (j * 5)).off + 2, none⟩ = some (.bool (rd_T24 ks (j : Int)).f2) ∧ w0.cell? ⟨(ad.add (j * 5)).block, (ad.add (j * 5)).off + 3, none⟩ = some (.string (rd_T24 ks (j : Int)).f3) ∧ w0.cell? ⟨(ad.add (j * 5)).block, (ad.add (j * 5)).off + 4, none⟩ = some (.slice G.1 (rd_T24 ks (j : Int)).f4.length G.2.1) ∧
  Hands G.2.2 (pathsP (rd_T24 ks (j : Int)) (rd_T24 ks (j : Int)).f0) ∧
  ∀ (bp bn : Nat) (Z0 : Nat → Prop) (W : World), Below w0.heap.size w0 W → W.heap[bp]? = some (.cells #[.string (rd_T24 ks (j : Int)).f0] 9 (0, 0)) → W.heap[bn]? = some (.cells #[.string (rd_T24 ks (j : Int)).f0, .int .i64 (rd_T24 ks (j : Int)).f1, .bool (rd_T24 ks (j : Int)).f2, .string (rd_T24 ks (j : Int)).f3, .slice G.1 (rd_T24 ks (j : Int)).f4.length G.2.1] 24 (0, 0)) → ¬ Z0 bp → ¬ Z0 bn → (∀ k, Z0 k → w0.heap.size ≤ k) →
    ItAll Tryd.prog 48 #[.pointer (some ⟨bp, 0, none⟩), .pointer (some ⟨bn, 0, none⟩)] G.2.2 Z0 W
/-- What stands between two rounds: the slice's box, what it holds. -/
def ERow (n0 q : Nat) (ps : List ByteArray) (Z : Nat → Prop) (W : World) : Prop :=
  ∃ v : Value, (∀ k, Z k ↔ (k = q ∨ v.ownBlock = some k)) ∧ W.heap[q]? = some (.cells #[v] 32 (0, 0)) ∧ W.ownsRow n0 9 1 v ps.length (pw_strs ps)
theorem ERow.seen {n0 q : Nat} {ps : List ByteArray} {Z : Nat → Prop} {W W' : World} (h : ERow n0 q ps Z W) (hk : ∀ k, k < W.heap.size → Z k → W'.heap[k]? = W.heap[k]?) : ERow n0 q ps Z W' := by
  obtain ⟨v, h1, h2, h3⟩ := h
  exact ⟨v, h1, (hk q (blk_lt h2) ((h1 q).2 (.inl rfl))).trans h2, own_move h3 (fun k e => hk k (own_lt h3 k e) ((h1 k).2 (.inr e)))⟩
theorem ERow.lt {n0 q : Nat} {ps : List ByteArray} {Z : Nat → Prop} {W : World} (h : ERow n0 q ps Z W) : ∀ k, Z k → k < W.heap.size := by
  obtain ⟨v, h1, h2, h3⟩ := h
  intro k hk
  rcases (h1 k).1 hk with rfl | e
  · exact blk_lt h2
  · exact own_lt h3 k e
theorem ERow.ge {n0 q : Nat} {ps : List ByteArray} {Z : Nat → Prop} {W : World} (h : ERow n0 q ps Z W) (hq : n0 ≤ q) : ∀ k, Z k → n0 ≤ k := by
  obtain ⟨v, h1, h2, h3⟩ := h
  intro k hk
  rcases (h1 k).1 hk with rfl | e
  · exact hq
  · exact own_base h3 k e
def EAct (bn q : Nat) (t : Tree) (A : Option Addr) (c : Nat) (j : Nat) (ds : List Nat) (u5 u19 u20 u21 u22 u23 u24 u25 u32 : Value) : Act :=
  { tmps := #[Value.agg #[.string t.f0, .int .i64 t.f1, .bool t.f2, .string t.f3, .slice A t.f4.length c], Value.pointer (some ⟨bn, 0, none⟩), Value.slice none 0 0, Value.pointer (some ⟨q, 0, none⟩), undef, u5, undef, Value.agg #[.string t.f0, .int .i64 t.f1, .bool t.f2, .string t.f3, .slice A t.f4.length c], Value.bool false, Value.bool false, Value.pointer (some ⟨bn, 1, none⟩), Value.int .i64 t.f1, Value.bool false, Value.bool false, undef, Value.pointer (some ⟨bn, 4, none⟩), Value.slice A t.f4.length c, Value.int .i64 (t.f4.length : Int), Value.int .i64 (j : Int), u19, u20, u21, u22, u23, u24, u25, undef, undef, undef, undef, undef, undef, u32, undef], defers := marks ds }
structure EInv (n0 q : Nat) (ks : List Tree) (Z : Nat → Prop) (w wr : World) (j : Nat) (ds : List Nat) : Prop where
  row : ERow n0 q (eachK ks j) Z wr
  low : Below w.heap.size w wr
  dd : ∀ D ∈ ds, w.heap.size ≤ D ∧ D < wr.heap.size ∧ wr.heap[D]? = some (.deferred (some [])) ∧ ¬ Z D
  nd : ds.Nodup
theorem strs_snoc (ps : List ByteArray) (p : ByteArray) : pw_strs (ps ++ [p]) = pw_strs ps ++ [.string p] := by simp [pw_strs]
set_option maxRecDepth 100000 in
set_option maxHeartbeats 4000000 in
theorem each_any (t : Tree) (hf : Fit t) (hlen : (eachP t).length ≤ 8796093022200) (A : Option Addr) (c : Nat) (w : World) (hC : Kd.C k24 w A t.f4.length t.f4) (hc : t.f4.length ≤ c) :
    Calls Tryd.prog 10 #[.agg #[.string t.f0, .int .i64 t.f1, .bool t.f2, .string t.f3, .slice A t.f4.length c]] w fun e w' => ∃ v : Value, e = .returned v ∧ w'.ownsRow w.heap.size 9 1 v (eachP t).length (pw_strs (eachP t)) ∧ Below w.heap.size w w' := by
  have hu := Tryd.underlying24
  obtain ⟨ps, hps⟩ : ∃ ps, eachP t = ps := ⟨_, rfl⟩
  rw [hps] at hlen ⊢
  have HPS := Aside0.mk hps
  clear hps
  have HTD := Aside0.mk (fun W (h : Below w.heap.size w W) => tooDeep_calls t hf A c W (Kd.C_below hC h) hc)
  have HC := Aside0.mk hC
  have HF := Aside0.mk hf
  have HL := Aside0.mk hlen
  clear hC hf hlen
  refine (callsIn_wide (n := 3)).1 ?_
  refine callsIn_of_wp_marks Tryd.func10 rfl trivial ?_ rfl
  simp only [Tryd.ntmps10, List.size_toArray, List.length_cons, List.length_nil, Nat.reduceAdd, Nat.reduceSub, Array.replicate_succ, Array.replicate_zero, List.push_toArray, List.append_toArray, List.nil_append, List.cons_append]
  gi_wp2_with fail
  have AL : Below w.heap.size w ((w.alloc (.cells #[.string t.f0, .int .i64 t.f1, .bool t.f2, .string t.f3, .slice A t.f4.length c] 24)).alloc (.cells #[.slice none 0 0] 32)) := (below_alloc (Below.refl _ w) (.cells #[.string t.f0, .int .i64 t.f1, .bool t.f2, .string t.f3, .slice A t.f4.length c] 24)).alloc (by simp) _
  have N2 : ((w.alloc (.cells #[.string t.f0, .int .i64 t.f1, .bool t.f2, .string t.f3, .slice A t.f4.length c] 24)).alloc (.cells #[.slice none 0 0] 32)).heap[w.heap.size]? = some (.cells #[.string t.f0, .int .i64 t.f1, .bool t.f2, .string t.f3, .slice A t.f4.length c] 24 (0, 0)) := blk_alloc (heap_alloc_new w _) _
  have Q2 : ((w.alloc (.cells #[.string t.f0, .int .i64 t.f1, .bool t.f2, .string t.f3, .slice A t.f4.length c] 24)).alloc (.cells #[.slice none 0 0] 32)).heap[w.heap.size + 1]? = some (.cells #[.slice none 0 0] 32 (0, 0)) := by
    have h1 := heap_alloc_new (w.alloc (.cells #[.string t.f0, .int .i64 t.f1, .bool t.f2, .string t.f3, .slice A t.f4.length c] 24)) (.cells #[.slice none 0 0] 32)
    rwa [World.size_alloc] at h1
  generalize (w.alloc (.cells #[.string t.f0, .int .i64 t.f1, .bool t.f2, .string t.f3, .slice A t.f4.length c] 24)).alloc (.cells #[.slice none 0 0] 32) = W2 at AL N2 Q2 ⊢
  refine ⟨trivial, (callsIn_wide.2 (HTD.out W2 AL)).mono ?_⟩
  rintro e w3 ⟨rfl, hb⟩
  have N3 := Aside0.mk (blk_below N2 hb)
  have Q3 := Aside0.mk (blk_below Q2 hb)
  have B3 := Aside0.mk (below_then AL AL.size hb)
  clear hb AL N2 Q2 HTD
  have z1 := (blk_cell N3.out 1).trans (rfl : _ = some (Value.int .i64 t.f1))
  have z4 := (blk_cell N3.out 4).trans (rfl : _ = some (Value.slice A t.f4.length c))
  have x0 := (blk_cell Q3.out 0).trans (rfl : _ = some (Value.slice none 0 0))
  by_cases hd : 12 < depthP t
  · have hE : ps = [] := by rw [← HPS.out]; unfold eachP; rw [if_pos (.inl hd)]
    subst hE
    have hd' : decide (12 < depthP t) = true := decide_eq_true hd
    rw [hd']
    have HB := B3
    clear hd hd' HC HF HL HPS
    gi_wp2_with fail
    exact ⟨_, res_each _ _, _, rfl, own_nil _ _ _ _, HB.out⟩
  have hd' : decide (12 < depthP t) = false := decide_eq_false hd
  rw [hd']
  by_cases hk : t.f1 = 2
  · have hkb : (t.f1 != 2) = false := bne_eq_false_iff_eq.mpr hk
    have hE : ps = eachK t.f4 t.f4.length := by rw [← HPS.out]; unfold eachP; rw [if_neg (by rintro (h | h); exact hd h; exact h hk)]
    have HE := Aside0.mk hE
    have HK := Aside0.mk (And.intro hd hk)
    clear hd hd' hk hE
    gi_wp2_with fail
    clear z1 z4 x0
    obtain ⟨bn, hbn⟩ : ∃ bn, w.heap.size = bn := ⟨_, rfl⟩
    have HBN := Aside0.mk hbn
    rw [hbn] at Q3 N3 ⊢
    clear hbn
    have HI0 := Aside0.mk (show EInv w.heap.size (bn + 1) t.f4 (fun k => k = bn + 1) w w3 0 [] from ⟨⟨.slice none 0 0, fun k => ⟨fun h => .inl h, fun h => by rcases h with h | h; exact h; simp [Value.ownBlock] at h⟩, Q3.out, own_nil _ _ _ _⟩, B3.out, (fun D hD => absurd hD (by simp)), List.nodup_nil⟩)
    clear N3 Q3 B3
    have hch : ∀ j : Nat, ∃ G : Option Addr × Nat × List (Array Value), ∀ ad, A = some ad → j < t.f4.length → KidE w ad t.f4 j G := by
      intro j
      by_cases hj : j < t.f4.length
      · obtain ⟨ad, A4, c4, hA, e0, e1, e2, e3, e4, l4, g4⟩ := at_T24 HC.out (j : Int) (by omega) (by omega)
        have hmem : rd_T24 t.f4 (j : Int) ∈ t.f4 := by rw [rd_at t.f4 j hj]; exact List.getElem_mem hj
        have hd : 1 + depthP (rd_T24 t.f4 (j : Int)) ≤ depthP t := by
          rw [depthP_eq t, if_pos HK.out.2]
          have := depthK_mem t.f4 _ hmem
          omega
        have hd2 := HK.out.1
        have hfx := HF.out.kid _ hmem
        obtain ⟨xs, hx, hit⟩ := walk_ok w _ hfx A4 c4 (rd_T24 t.f4 (j : Int)).f0 g4 l4 (by have := hfx.name; omega)
        rw [Int.toNat_natCast] at e0 e1 e2 e3 e4
        exact ⟨(A4, c4, xs), fun ad' h' _ => by
          obtain rfl : ad = ad' := Option.some.inj (hA.symm.trans h')
          exact ⟨e0, e1, e2, e3, e4, hx, hit⟩⟩
      · exact ⟨(none, 0, []), fun _ _ h => absurd h hj⟩
    obtain ⟨G, hG⟩ := Classical.axiomOfChoice hch
    have HG := Aside0.mk hG
    clear hch hG
    have hln : t.f4.length ≤ 9223372036854775807 := HC.out.2.1
    refine wpIn_loop (fun a wr => ∃ (j : Nat) (ds : List Nat) (Z : Nat → Prop) (u5 u19 u20 u21 u22 u23 u24 u25 u32 : Value), a = EAct bn (bn + 1) t A c j ds u5 u19 u20 u21 u22 u23 u24 u25 u32 ∧ j ≤ t.f4.length ∧ EInv w.heap.size (bn + 1) t.f4 Z w wr j ds) (fun a _ => t.f4.length - (intOf (a.tmps.getD 18 undef)).toNat)
      ⟨0, [], _, undef, undef, undef, undef, undef, undef, undef, undef, undef, rfl, Nat.zero_le _, HI0.out⟩ ?_
    rintro _ wr ⟨j, ds, Z, u5, u19, u20, u21, u22, u23, u24, u25, u32, rfl, hj, hinv⟩
    have HI := Aside0.mk hinv
    clear hinv HI0
    unfold EAct
    by_cases hlt : j < t.f4.length
    · obtain ⟨ad, _, _, hA, _⟩ := at_T24 HC.out (j : Int) (by omega) (by omega)
      obtain ⟨e0, e1, e2, e3, e4, hx, hit⟩ := HG.out j ad hA hlt
      subst hA
      have HSC := Aside0.mk (eachK_succ t.f4 j)
      have HLJ := Aside0.mk (show (eachK t.f4 (j + 1)).length ≤ 8796093022200 from by have h1 := HL.out; rw [HE.out] at h1; have := eachK_le t.f4 (show j + 1 ≤ t.f4.length by omega); omega)
      generalize rd_T24 t.f4 (j : Int) = x at *
      generalize G j = Gj at *
      obtain ⟨A4, c4, xs⟩ := Gj
      dsimp only at e0 e1 e2 e3 e4 hx hit
      have HX := Aside0.mk hx
      have HIT := Aside0.mk hit
      have f0 := pw_cell_below HI.out.low e0
      have f1 := pw_cell_below HI.out.low e1
      have f2 := pw_cell_below HI.out.low e2
      have f3 := pw_cell_below HI.out.low e3
      have f4 := pw_cell_below HI.out.low e4
      have XL := Aside0.mk (below_alloc (Below.refl _ wr) (.cells #[.string x.f0, .int .i64 x.f1, .bool x.f2, .string x.f3, .slice A4 x.f4.length c4] 24))
      clear e0 e1 e2 e3 e4 hx hit
      gi_wp2_with fail
      refine ⟨trivial, (callsIn_wide.2 (walk_calls x A4 c4 x.f0 _)).mono ?_⟩
      rintro e w5 ⟨rfl, rfl⟩
      gi_wp2_with fail
      clear f0 f1 f2 f3 f4
      have AL5 : Below wr.heap.size wr (((wr.alloc (.cells #[.string x.f0, .int .i64 x.f1, .bool x.f2, .string x.f3, .slice A4 x.f4.length c4] 24)).alloc (.cells #[.string x.f0, .int .i64 x.f1, .bool x.f2, .string x.f3, .slice A4 x.f4.length c4] 24)).alloc (.cells #[.string x.f0] 9)) := ((XL.out.alloc XL.out.size _).alloc (Nat.le_trans XL.out.size (by simp)) _)
      have Z5 : (((wr.alloc (.cells #[.string x.f0, .int .i64 x.f1, .bool x.f2, .string x.f3, .slice A4 x.f4.length c4] 24)).alloc (.cells #[.string x.f0, .int .i64 x.f1, .bool x.f2, .string x.f3, .slice A4 x.f4.length c4] 24)).alloc (.cells #[.string x.f0] 9)).heap.size = wr.heap.size + 3 := by simp
      have M5 : (((wr.alloc (.cells #[.string x.f0, .int .i64 x.f1, .bool x.f2, .string x.f3, .slice A4 x.f4.length c4] 24)).alloc (.cells #[.string x.f0, .int .i64 x.f1, .bool x.f2, .string x.f3, .slice A4 x.f4.length c4] 24)).alloc (.cells #[.string x.f0] 9)).heap[wr.heap.size + 1]? = some (.cells #[.string x.f0, .int .i64 x.f1, .bool x.f2, .string x.f3, .slice A4 x.f4.length c4] 24 (0, 0)) := by
        have h1 := heap_alloc_new (wr.alloc (.cells #[.string x.f0, .int .i64 x.f1, .bool x.f2, .string x.f3, .slice A4 x.f4.length c4] 24)) (.cells #[.string x.f0, .int .i64 x.f1, .bool x.f2, .string x.f3, .slice A4 x.f4.length c4] 24)
        rw [World.size_alloc] at h1
        exact blk_alloc h1 _
      have Q5 : (((wr.alloc (.cells #[.string x.f0, .int .i64 x.f1, .bool x.f2, .string x.f3, .slice A4 x.f4.length c4] 24)).alloc (.cells #[.string x.f0, .int .i64 x.f1, .bool x.f2, .string x.f3, .slice A4 x.f4.length c4] 24)).alloc (.cells #[.string x.f0] 9)).heap[wr.heap.size + 1 + 1]? = some (.cells #[.string x.f0] 9 (0, 0)) := by
        have h1 := heap_alloc_new ((wr.alloc (.cells #[.string x.f0, .int .i64 x.f1, .bool x.f2, .string x.f3, .slice A4 x.f4.length c4] 24)).alloc (.cells #[.string x.f0, .int .i64 x.f1, .bool x.f2, .string x.f3, .slice A4 x.f4.length c4] 24)) (.cells #[.string x.f0] 9)
        rwa [World.size_alloc, World.size_alloc] at h1
      have XW := Aside0.mk (And.intro AL5 (And.intro Z5 (And.intro M5 Q5)))
      clear AL5 Z5 M5 Q5
      generalize ((wr.alloc (.cells #[.string x.f0, .int .i64 x.f1, .bool x.f2, .string x.f3, .slice A4 x.f4.length c4] 24)).alloc (.cells #[.string x.f0, .int .i64 x.f1, .bool x.f2, .string x.f3, .slice A4 x.f4.length c4] 24)).alloc (.cells #[.string x.f0] 9) = W5 at XW ⊢
      have HPS2 := Aside0.mk (show ∀ a ∈ xs, a.size = 2 from fun a ha => by obtain ⟨q, y, Ay, cy, rfl⟩ := HX.out.2 a ha; rfl)
      have HXL := Aside0.mk (show xs.length = (pathsP x x.f0).length from by rw [← HX.out.1, List.length_map])
      have ZLT := Aside0.mk HI.out.row.lt
      have ZGE := Aside0.mk (HI.out.row.ge (by have := HBN.out; omega))
      refine wpIn_range_all (gf := 48) (lb := #[.pointer (some ⟨wr.heap.size + 1 + 1, 0, none⟩), .pointer (some ⟨wr.heap.size + 1, 0, none⟩)]) rfl (enters_of Tryd.func48 (by kernel_rfl) rfl) xs (fun a ha => HPS2.out a ha) Z
        (fun k hz => by have := ZLT.out k hz; have := XW.out.2.1; omega)
        (fun W' hW' => HIT.out _ _ Z W' (below_then (below_then HI.out.low HI.out.low.size XW.out.1) (Nat.le_trans HI.out.low.size XW.out.1.size) hW') (blk_below XW.out.2.2.2 hW') (blk_below XW.out.2.2.1 hW') (fun h => by have := ZLT.out _ h; omega) (fun h => by have := ZLT.out _ h; omega) ZGE.out)
        (fun i Z' W' => ERow w.heap.size (bn + 1) (eachK t.f4 j ++ (pathsP x x.f0).take i) Z' W')
        (fun i Z' W1 W' h hb hk => h.seen (fun k hlt hz => hk k hlt (.inr hz)))
        (by
          show ERow w.heap.size (bn + 1) (eachK t.f4 j ++ (pathsP x x.f0).take 0) Z W5
          rw [List.take_zero, List.append_nil]
          exact HI.out.row.seen (fun k hlt _ => XW.out.1.block k hlt)) ?_ ?_
      · intro l' i Z' W' hlx hle hi hst hnl hll
        obtain ⟨q, y, Ay, cy, hxi⟩ := HX.out.2 xs[i] (List.getElem_mem hlx)
        have hqi : (pathsP x x.f0)[i]'(by rw [← HXL.out]; exact hlx) = q := by
          have h1 : (xs.map pathOf)[i]'(by rw [List.length_map]; exact hlx) = pathOf xs[i] := List.getElem_map ..
          rw [hxi] at h1
          have h2 : (pathsP x x.f0)[i]'(by rw [← HXL.out]; exact hlx) = (xs.map pathOf)[i]'(by rw [List.length_map]; exact hlx) := by simp only [HX.out.1]
          rw [h2, h1]; rfl
        rw [hxi]
        have HQI := Aside0.mk (show (pathsP x x.f0).take (i + 1) = (pathsP x x.f0).take i ++ [q] from by rw [List.take_succ_eq_append_getElem (by rw [← HXL.out]; exact hlx), hqi])
        have HIL := Aside0.mk (show ((eachK t.f4 j) ++ (pathsP x x.f0).take i).length + 1 ≤ 8796093022200 from by
          have h1 := HLJ.out
          rw [HSC.out, List.length_append] at h1
          rw [List.length_append, List.length_take]
          have := HXL.out
          omega)
        clear hxi hqi
        gi_wp2_with fail
        refine ⟨Below.refl _ _, fun W6 hb6 hs6 hk6 => ?_⟩
        obtain ⟨v, hzv, hqv, hown⟩ := hi.seen (W' := W6) (fun k hk hz => hk6 k (by rintro rfl; exact hnl hz))
        have hc6 := (blk_cell hqv 0).trans (rfl : _ = some v)
        obtain ⟨i0, hi0, hi1, hi2, hi3⟩ := info_parts infoStr
        have HSTP := Aside0.mk (And.intro hle (And.intro hi (And.intro hst (And.intro hnl hll))))
        have HZV := Aside0.mk hzv
        have HQV := Aside0.mk hqv
        have HOW := Aside0.mk hown
        have hbs : w.heap.size ≤ W6.heap.size := by
          have h1 := HI.out.low.size; have h2 := XW.out.1.size; have h3 := hst.size; omega
        have HBS := Aside0.mk hbs
        have hbs1 : w.heap.size ≤ W6.heap.size + 1 := by omega
        have hil := HIL.out
        have hm1 : ((eachK t.f4 j) ++ (pathsP x x.f0).take i).length + 1 ≤ maxLen := by simp only [maxLen]; omega
        have hm2 : (((eachK t.f4 j) ++ (pathsP x x.f0).take i).length + 1) * 16 ≤ 140737488355328 := by omega
        have HS6 := Aside0.mk (And.intro hs6 (And.intro hb6 hk6))
        clear hi hst hnl hll hzv hs6 hb6 hk6 hil hbs
        have hqne : some (bn + 1) ≠ v.ownBlock := own_ne HOW.out HQV.out (by decide)
        gi_wp2_with (gi_at_builtin; refine wpListIn_append_own_at _ rfl _ _ 32 rfl w.heap.size 9 i0 (.string ⟨#[]⟩) 1 16 Tryd.underlying32 hi0 hi1 hi2 hi3 rfl (by decide) _ _ _ rfl (HOW.out.alloc _) ⟨W6.heap.size, 0, none⟩ 1 1 [.string q] rfl rfl (cell_one_new _ _ _) (by simp [Value.oneCell']) hm1 hm2 (by simp; exact hbs1) ?_; intro v' w1 hown' hgrow _ hat; obtain ⟨g', cap', rfl⟩ := ownsRow_succ hown'; have hq1 : w1.heap[bn + 1]? = some (.cells #[v] 32 (0, 0)) := (hgrow.block (bn + 1) (by have := blk_lt HQV.out; simp; omega) hqne).trans (blk_alloc HQV.out _); have hc1 := (blk_cell hq1 0).trans (rfl : _ = some v); have hf1 := blk_nofreeze hq1 0)
        simp only [List.length_append, List.length_take] at hown' hat
        generalize Value.slice (some ⟨g', 0, none⟩) ((eachK t.f4 j).length + min i (pathsP x x.f0).length + 1) cap' = V at hown' hat ⊢
        have hVne : some (bn + 1) ≠ V.ownBlock := own_ne hown' hq1 (by decide)
        have hA := below_alloc (Below.refl _ W6) (.cells #[.string q] 9)
        have hlt6 := blk_lt HQV.out
        refine ⟨fun k => k = bn + 1 ∨ V.ownBlock = some k, ⟨V, fun k => Iff.rfl, (blk_store (l := [_]) hq1 0 V).trans rfl, ?_⟩, ⟨?_, fun k hk hz => ?_, fun k hk => ?_, fun k hk => ?_⟩⟩
        · have h2 := own_setCell hown' (p := ⟨bn + 1, 0, none⟩) hVne V
          rw [HQI.out, ← List.append_assoc, strs_snoc, List.length_append, List.length_append, List.length_take]
          exact h2
        · exact below0_trans (hA.mono (Nat.zero_le _)) (below0_trans ⟨hgrow.os, hgrow.tape, hgrow.output, hgrow.size, fun k hk => absurd hk (Nat.not_lt_zero _)⟩ ((Below.refl 0 w1).setCell (p := ⟨bn + 1, 0, none⟩) (Nat.zero_le _) V))
        · have hk1 : k ≠ bn + 1 := fun e => hz ((HZV.out k).2 (.inl e))
          have hk2 : some k ≠ v.ownBlock := fun e => hz ((HZV.out k).2 (.inr e.symm))
          exact (Below.heap_setCell w1 ⟨bn + 1, 0, none⟩ V k hk1).trans ((hgrow.block k (by simp; omega) hk2).trans (hA.block k hk))
        · rcases hk with rfl | hk
          · exact .inl ((HZV.out _).2 (.inl rfl))
          · rcases hat with h | h
            · have h' : V.ownBlock = v.ownBlock := h
              exact .inl ((HZV.out k).2 (.inr (h'.symm.trans hk)))
            · have h' : V.ownBlock = some (W6.alloc (.cells #[.string q] 9)).heap.size := h
              rw [h'] at hk
              injection hk with hk
              right
              rw [← hk]; simp
        · have hs : (w1.setCell ⟨bn + 1, 0, none⟩ V).heap.size = w1.heap.size := by simp
          rw [hs]
          rcases hk with rfl | hk
          · exact blk_lt hq1
          · exact own_lt hown' k hk
      · intro D Z' W' hle hi hst hD hnD
        have hw : wrap64 ((j : Int) + 1) = ((j + 1 : Nat) : Int) := by unfold wrap64; omega
        have HD := Aside0.mk (And.intro hle (And.intro hi (And.intro hst (And.intro hD hnD))))
        clear hle hi hst hD hnD
        gi_wp2_with fail
        refine ⟨⟨j + 1, D :: ds, Z', _, _, _, _, _, _, _, _, _, rfl, by omega, ?_⟩, ?_⟩
        · obtain ⟨hle, hi, hst, hD, hnD⟩ := HD.out
          have hsw := XW.out.2.1
          refine ⟨?_, ⟨hst.low.os.trans (XW.out.1.os.trans HI.out.low.os), hst.low.tape.trans (XW.out.1.tape.trans HI.out.low.tape), hst.low.output.trans (XW.out.1.output.trans HI.out.low.output), Nat.le_trans HI.out.low.size (Nat.le_trans XW.out.1.size hst.size), fun k hk => ?_⟩, fun E hE => ?_, List.nodup_cons.2 ⟨fun hE => by have := (HI.out.dd D hE).2.1; omega, HI.out.nd⟩⟩
          · rw [HSC.out]
            rw [HXL.out, List.take_length] at hi
            exact hi
          · have h1 := HI.out.low.size
            exact ((hst.keep k (by omega) (fun hz => by have := ZGE.out k hz; omega)).trans (XW.out.1.block k (by omega))).trans (HI.out.low.block k hk)
          · rcases List.mem_cons.1 hE with rfl | hE
            · exact ⟨by have := HI.out.low.size; omega, (Array.getElem?_eq_some_iff.1 hD).1, hD, hnD⟩
            · obtain ⟨d1, d2, d3, d4⟩ := HI.out.dd E hE
              exact ⟨d1, by have := hst.size; omega, ((hst.keep E (by omega) d4).trans (XW.out.1.block E d2)).trans d3, fun hz => by
                rcases hst.grow E hz with h1 | h1
                · exact d4 h1
                · omega⟩
        · simp [EAct, intOf]; omega
    · have hjn : j = t.f4.length := by omega
      subst hjn
      obtain ⟨v, hzv, hqv, hown⟩ := HI.out.row
      have hc6 := (blk_cell hqv 0).trans (rfl : _ = some v)
      have HOW := Aside0.mk hown
      have HZV := Aside0.mk hzv
      clear hown hzv hqv
      gi_wp2_with fail
      show LeavesInM Fence.wide 3 _ _ _ _ (marks ds) .returning wr
      refine leaves_marks (fun W' => W'.ownsRow w.heap.size 9 1 v ps.length (pw_strs ps) ∧ Below w.heap.size w W') (fun W' _ => res_each _ W') (fun W' hK => ⟨_, rfl, hK⟩) ds wr HI.out.nd (fun D hD => (HI.out.dd D hD).2.2.1) (fun W' D hD hK => ?_) ⟨by rw [HE.out]; exact HOW.out, HI.out.low⟩
      obtain ⟨d1, d2, d3, d4⟩ := HI.out.dd D hD
      refine ⟨own_move hK.1 (fun k e => World.putObj_heap_other (by rintro rfl; exact d4 ((HZV.out k).2 (.inr e)))), ?_⟩
      exact ⟨hK.2.os, hK.2.tape, hK.2.output, by simp; exact hK.2.size, fun k hk => (World.putObj_heap_other (by omega)).trans (hK.2.block k hk)⟩
  · have hkb : (t.f1 != 2) = true := bne_iff_ne.mpr hk
    have hE : ps = [] := by rw [← HPS.out]; unfold eachP; rw [if_pos (.inr hk)]
    subst hE
    have HB := B3
    clear hd hd' hk HC HF HL HPS
    gi_wp2_with fail
    exact ⟨_, res_each _ _, _, rfl, own_nil _ _ _ _, HB.out⟩
open Classical in
noncomputable def tree_Each.f (a0 : ByteArray) (a1 : Int) (a2 : Bool) (a3 : ByteArray) (l : List S24) : Option (List ByteArray) := if Fit ⟨a0, a1, a2, a3, l⟩ ∧ (eachP ⟨a0, a1, a2, a3, l⟩).length ≤ 8796093022200 then some (eachP ⟨a0, a1, a2, a3, l⟩) else none
theorem reps_strs (w : World) (b : Nat) (ok : Nat → Prop) (ps : List ByteArray) : Reps (Kd.string.M w b ok) 1 ps (pw_strs ps) := by
  refine ⟨by simp [pw_strs], fun j p hj => ?_⟩
  obtain ⟨h1, h2⟩ := List.getElem?_eq_some_iff.1 hj
  show ((pw_strs ps).drop (j * 1)).take 1 = [.string p]
  rw [Nat.mul_one, List.drop_eq_getElem_cons (by simp [pw_strs]; exact h1)]
  simp [pw_strs, h2]
theorem tree_Each.calls (a0_0 : ByteArray) (a0_1 : Int) (a0_2 : Bool) (a0_3 : ByteArray) (A0_4 : Option Addr) (c0_4 : Nat) (l0_4 : List S24) (r0 : List ByteArray) (w : World) (hr0_4 : Kd.C k24 w A0_4 l0_4.length l0_4) (hc0_4 : l0_4.length ≤ c0_4) (h : tree_Each.f a0_0 a0_1 a0_2 a0_3 l0_4 = some r0) :
    Calls Tryd.prog 10 #[.agg #[.string a0_0, .int .i64 a0_1, .bool a0_2, .string a0_3, .slice A0_4 l0_4.length c0_4]] w fun e w' => ∃ v_ : Value, e = .returned v_ ∧ Kd.R Kd.string 9 w' w.heap.size (fun _ => True) v_ r0 ∧ Below w.heap.size w w' := by
  unfold tree_Each.f at h
  split at h
  · rename_i hf
    obtain rfl := Option.some.inj h
    refine (each_any ⟨a0_0, a0_1, a0_2, a0_3, l0_4⟩ hf.1 hf.2 A0_4 c0_4 w hr0_4 hc0_4).mono ?_
    rintro e w' ⟨v, rfl, ho, hb⟩
    exact ⟨v, rfl, ⟨fun _ _ => trivial, ⟨_, ho, reps_strs _ _ _ _⟩⟩, hb⟩
  · cases h
end Go.Proofs.YtalljcjignaafaaDoor.PB

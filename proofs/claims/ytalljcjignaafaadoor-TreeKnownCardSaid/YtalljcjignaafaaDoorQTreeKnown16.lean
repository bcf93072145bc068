import Derived.Test.YtalljcjignaafaaDoorQTreeKnown1
import Derived.Test.YtalljcjignaafaaDoorQTreeKnown12
import Derived.Test.YtalljcjignaafaaDoorQTreeKnown15
namespace Go.Proofs.YtalljcjignaafaaDoor.PB
open Go Go.RowKit Go.Proofs.YtalljcjignaafaaDoor Go.Proofs.YtalljcjignaafaaDoorW.PrintWords Go.Proofs.YtalljcjignaafaaDoorW.PrintLast
attribute [local go_sem] Oper.semAt_some
set_option linter.unusedVariables false
set_option linter.unusedSimpArgs false
mutual
/-- The paths of a node that p leads to, and of all that it has. -/
def pathsP : Tree → ByteArray → List ByteArray
  | ⟨_, kd, _, _, ks⟩, p => p :: (if kd = 2 then pathsK ks p else [])
def pathsK : List Tree → ByteArray → List ByteArray
  | [], _ => []
  | k :: r, p => pathsP k (p ++ ⟨#[47]⟩ ++ k.f0) ++ pathsK r p
end
theorem pathsP_eq (t : Tree) (p : ByteArray) : pathsP t p = p :: (if t.f1 = 2 then pathsK t.f4 p else []) := by cases t; simp only [pathsP]
theorem walk_calls (t : Tree) (A : Option Addr) (c : Nat) (p : ByteArray) (w : World) :
    Calls Tryd.prog 28 #[.agg #[.string t.f0, .int .i64 t.f1, .bool t.f2, .string t.f3, .slice A t.f4.length c], .string p] w fun e w' =>
      e = .returned (.func (.func 48) #[] #[.pointer (some ⟨w.heap.size + 1, 0, none⟩), .pointer (some ⟨w.heap.size, 0, none⟩)]) ∧
      w' = (w.alloc (.cells #[.string t.f0, .int .i64 t.f1, .bool t.f2, .string t.f3, .slice A t.f4.length c] 24)).alloc (.cells #[.string p] 9) := by
  have hmf : ∀ (fn : Fn) (first cap : Array Value) (W : World), (Instr.makeFunc fn first cap).run Tryd.prog W = .ok (.func fn first cap) W := fun _ _ _ _ => rfl
  go_enter Tryd.func28, Tryd.ntmps28
  go_wp2
  go_ret
  exact ⟨rfl, rfl⟩
theorem res_none (tmps : Array Value) (W : World) : (results Tryd.f48 tmps).run Tryd.prog W = .ok (.tuple #[]) W := by
  simp [results, show Tryd.f48.results = #[] from rfl]
def pathOf (x : Array Value) : ByteArray := match x.getD 0 undef with
  | .string s => s
  | _ => ⟨#[]⟩
/-- What the iterator's rounds are handed. -/
def Hands (xs : List (Array Value)) (ps : List ByteArray) : Prop := xs.map pathOf = ps ∧ ∀ x ∈ xs, ∃ (q : ByteArray) (y : Tree) (A : Option Addr) (c : Nat), x = #[.string q, .agg #[.string y.f0, .int .i64 y.f1, .bool y.f2, .string y.f3, .slice A y.f4.length c]]
theorem pathsK_range : ∀ (ks : List Tree) (p : ByteArray), pathsK ks p = (List.range ks.length).flatMap (fun (j : Nat) => pathsP (rd_T24 ks (j : Int)) (p ++ ⟨#[47]⟩ ++ (rd_T24 ks (j : Int)).f0))
  | [], p => rfl
  | k :: r, p => by
    rw [List.length_cons, List.range_succ_eq_map, List.flatMap_cons, List.flatMap_map]
    simp only [pathsK]
    congr 1
    rw [pathsK_range r p]
    congr 1
/-- The kid that is met: how it lies, and what its own iterator hands on. -/
def KidOK (w0 : World) (ad : Addr) (ks : List Tree) (p : ByteArray) (j : Nat) (G : Option Addr × Nat × List (Array Value)) : Prop :=
  w0.cell? (ad.add (j * 5)) = some (.string (rd_T24 ks (j : Int)).f0) ∧ w0.cell? ⟨(ad.add (j * 5)).block, (ad.add (j * 5)).off + 1, none⟩ = some (.int .i64 (rd_T24 ks (j : Int)).f1) ∧ w0.cell? ⟨(ad.add (j * 5)).block, (ad.add (j * 5)).off + 2, none⟩ = some (.bool (rd_T24 ks (j : Int)).f2) ∧ w0.cell? ⟨(ad.add (j * 5)).block, (ad.add (j * 5)).off + 3, none⟩ = some (.string (rd_T24 ks (j : Int)).f3) ∧ w0.cell? ⟨(ad.add (j * 5)).block, (ad.add (j * 5)).off + 4, none⟩ = some (.slice G.1 (rd_T24 ks (j : Int)).f4.length G.2.1) ∧
  Hands G.2.2 (pathsP (rd_T24 ks (j : Int)) (p ++ ⟨#[47]⟩ ++ (rd_T24 ks (j : Int)).f0)) ∧
  ∀ (bp bn : Nat) (Z0 : Nat → Prop) (W : World), Below w0.heap.size w0 W → W.heap[bp]? = some (.cells #[.string (p ++ ⟨#[47]⟩ ++ (rd_T24 ks (j : Int)).f0)] 9 (0, 0)) → W.heap[bn]? = some (.cells #[.string (rd_T24 ks (j : Int)).f0, .int .i64 (rd_T24 ks (j : Int)).f1, .bool (rd_T24 ks (j : Int)).f2, .string (rd_T24 ks (j : Int)).f3, .slice G.1 (rd_T24 ks (j : Int)).f4.length G.2.1] 24 (0, 0)) → ¬ Z0 bp → ¬ Z0 bn → (∀ k, Z0 k → w0.heap.size ≤ k) →
    ItAll Tryd.prog 48 #[.pointer (some ⟨bp, 0, none⟩), .pointer (some ⟨bn, 0, none⟩)] G.2.2 Z0 W
/-- The tree's iterator. -/
def WalkOK (w0 : World) (t : Tree) : Prop := ∀ (A : Option Addr) (c : Nat) (p : ByteArray), Kd.C k24 w0 A t.f4.length t.f4 → t.f4.length ≤ c → p.size + depthP t * 140737488351300 ≤ 9000000000000000000 →
  ∃ xs, Hands xs (pathsP t p) ∧ ∀ (bp bn : Nat) (Z0 : Nat → Prop) (W : World), Below w0.heap.size w0 W → W.heap[bp]? = some (.cells #[.string p] 9 (0, 0)) → W.heap[bn]? = some (.cells #[.string t.f0, .int .i64 t.f1, .bool t.f2, .string t.f3, .slice A t.f4.length c] 24 (0, 0)) → ¬ Z0 bp → ¬ Z0 bn → (∀ k, Z0 k → w0.heap.size ≤ k) →
    ItAll Tryd.prog 48 #[.pointer (some ⟨bp, 0, none⟩), .pointer (some ⟨bn, 0, none⟩)] xs Z0 W
/-- The place in the hands of kid j's first. -/
def offs (G : Nat → Option Addr × Nat × List (Array Value)) (j : Nat) : Nat := 1 + ((List.range j).flatMap (fun i => (G i).2.2)).length
theorem offs_succ (G : Nat → Option Addr × Nat × List (Array Value)) (j : Nat) : offs G (j + 1) = offs G j + (G j).2.2.length := by
  simp [offs, List.range_succ]; omega
theorem flat_get (G : Nat → Option Addr × Nat × List (Array Value)) (x0 : Array Value) : ∀ (m j i : Nat), j < m → (h : i < (G j).2.2.length) → ∃ h2 : offs G j + i < (x0 :: (List.range m).flatMap (fun i => (G i).2.2)).length, (x0 :: (List.range m).flatMap (fun i => (G i).2.2))[offs G j + i] = (G j).2.2[i]
  | 0, j, i, hj, _ => by omega
  | m + 1, j, i, hj, h => by
    have e : (x0 :: (List.range (m + 1)).flatMap (fun i => (G i).2.2)) = (x0 :: (List.range m).flatMap (fun i => (G i).2.2)) ++ (G m).2.2 := by simp [List.range_succ]
    have hl : (x0 :: (List.range m).flatMap (fun i => (G i).2.2)).length = offs G m := by simp [offs]; omega
    by_cases hjm : j < m
    · obtain ⟨h2, h3⟩ := flat_get G x0 m j i hjm h
      refine ⟨by rw [e, List.length_append]; omega, ?_⟩
      simp only [e]
      rw [List.getElem_append_left h2]
      exact h3
    · obtain rfl : j = m := by omega
      refine ⟨by rw [e, List.length_append]; omega, ?_⟩
      simp only [e]
      rw [List.getElem_append_right (by omega)]
      congr 1
      omega
set_option maxRecDepth 100000 in
set_option maxHeartbeats 4000000 in
/-- The iterator of a node that is no directory: itself alone. -/
theorem walk_leaf (w0 : World) (t : Tree) (hk : t.f1 ≠ 2) : WalkOK w0 t := by
  intro A c p hC hc hsz
  refine ⟨[#[.string p, .agg #[.string t.f0, .int .i64 t.f1, .bool t.f2, .string t.f3, .slice A t.f4.length c]]], ⟨by rw [pathsP_eq, if_neg hk]; rfl, fun x hx => ⟨p, t, A, c, by simpa using hx⟩⟩, ?_⟩
  intro bp bn Z0 W hw0 hp hn hzp hzn hzl
  intro n l J hJ hJ0 hz0 hY
  have hu := Tryd.underlying24
  refine callsIn_of_wp_marks Tryd.func48 rfl trivial ?_ rfl
  simp only [Tryd.ntmps48, List.size_toArray, List.length_cons, List.length_nil, Nat.reduceAdd, Nat.reduceSub, Array.replicate_succ, Array.replicate_zero, List.push_toArray, List.append_toArray, List.nil_append, List.cons_append]
  have AL := below_alloc (Below.refl _ W) (.cells #[.func (.yield l) #[] #[]] 76)
  have N3 := Aside0.mk (blk_below hn AL)
  have P3 := Aside0.mk (blk_below hp AL)
  have S3 := Aside0.mk (Stp.of_below AL hz0)
  have J3 := Aside0.mk (hJ 0 Z0 W (W.alloc (.cells #[.func (.yield l) #[] #[]] 76)) hJ0 (AL.mono (Nat.zero_le _)) (fun k hk _ => AL.block k hk))
  obtain ⟨fn, tm, as_, bo, hy, hR⟩ := hY 0 Z0 _ (by simp) J3.out S3.out
  simp only [List.getElem_cons_zero] at hy
  have HR := Aside0.mk hR
  have HK := Aside0.mk hk
  have hkb : (t.f1 != 2) = true := bne_iff_ne.mpr hk
  have HZ := Aside0.mk (And.intro hzp hzn)
  clear hR J3 hk hJ hJ0 hz0 hY hw0 hC hc hsz hzl
  have c1 := (blk_cell P3.out 0).trans (rfl : _ = some (Value.string p))
  have z0 := (blk_cell N3.out 0).trans (rfl : _ = some (Value.string t.f0))
  have z1 := (blk_cell N3.out 1).trans (rfl : _ = some (Value.int .i64 t.f1))
  have z2 := (blk_cell N3.out 2).trans (rfl : _ = some (Value.bool t.f2))
  have z3 := (blk_cell N3.out 3).trans (rfl : _ = some (Value.string t.f3))
  have z4 := (blk_cell N3.out 4).trans (rfl : _ = some (Value.slice A t.f4.length c))
  gi_wp2_with fail
  refine ⟨fun h => by simp [Fence.wide] at h, HR.out.mono ?_⟩
  rintro e w4 ⟨rfl, Z1, hJ1, hS1⟩
  have N4 := Aside0.mk ((hS1.keep bn (blk_lt N3.out) HZ.out.2).trans N3.out)
  have J4 := Aside0.mk hJ1
  have S4 := Aside0.mk hS1
  clear hJ1 hS1 c1 z0 z1 z2 z3 z4 hy HR
  have z1 := (blk_cell N4.out 1).trans (rfl : _ = some (Value.int .i64 t.f1))
  gi_wp2_with fail
  exact ⟨_, res_none _ _, ⟨_, rfl⟩, Z1, J4.out, S3.out.trans S4.out⟩
end Go.Proofs.YtalljcjignaafaaDoor.PB
namespace Go.Proofs.YtalljcjignaafaaDoor.PB
open Go Go.RowKit Go.Proofs.YtalljcjignaafaaDoor Go.Proofs.YtalljcjignaafaaDoorW.PrintWords Go.Proofs.YtalljcjignaafaaDoorW.PrintLast
attribute [local go_sem] Oper.semAt_some
set_option linter.unusedVariables false
set_option linter.unusedSimpArgs false
def LAct (l bp bn b3 : Nat) (p : ByteArray) (t : Tree) (A : Option Addr) (c : Nat) (j : Nat) (ds : List Nat) (u5 u22 u23 u24 u25 u26 u27 u28 u29 u30 u31 u39 : Value) : Act :=
  { tmps := #[Value.func (.yield l) #[] #[], Value.pointer (some ⟨bp, 0, none⟩), Value.pointer (some ⟨bn, 0, none⟩), Value.pointer (some ⟨b3, 0, none⟩), undef, u5, undef, undef, Value.func (.yield l) #[] #[], Value.string p, Value.agg #[.string t.f0, .int .i64 t.f1, .bool t.f2, .string t.f3, .slice A t.f4.length c], Value.bool true, Value.bool false, Value.bool false, Value.pointer (some ⟨bn, 1, none⟩), Value.int .i64 t.f1, Value.bool false, Value.bool false, Value.pointer (some ⟨bn, 4, none⟩), Value.slice A t.f4.length c, Value.int .i64 (t.f4.length : Int), Value.int .i64 (j : Int), u22, u23, u24, u25, u26, u27, u28, u29, u30, u31, undef, undef, undef, undef, undef, undef, undef, u39], defers := marks ds }
/-- What stands between two kids. -/
structure LInv (J : Nat → (Nat → Prop) → World → Prop) (G : Nat → Option Addr × Nat × List (Array Value)) (Z0 Z : Nat → Prop) (W3 wr : World) (j : Nat) (ds : List Nat) : Prop where
  jj : J (offs G j) Z wr
  st : Stp Z0 Z W3 wr
  dd : ∀ D ∈ ds, W3.heap.size ≤ D ∧ D < wr.heap.size ∧ wr.heap[D]? = some (.deferred (some [])) ∧ ¬ Z D
  nd : ds.Nodup
theorem roundIn_any {P : Program} {n l f : Nat} {tm : Array Value} {as_ bo : Code} {W : World} {R : Ending → World → Prop} (l' m : Nat) (h : RoundIn Fence.wide n P l f tm as_ bo W R) : RoundIn (Fence.wide.inRound l') m P l f tm as_ bo W R := ⟨trivial, fun c cs _ => h.2 c cs (room_wide _)⟩
theorem depthP_one (t : Tree) : 1 ≤ depthP t := by
  rw [depthP_eq]; split <;> omega
theorem hands_kids (w0 : World) (ad : Addr) (ks : List Tree) (p : ByteArray) (G : Nat → Option Addr × Nat × List (Array Value)) : ∀ (m : Nat), (∀ j, j < m → KidOK w0 ad ks p j (G j)) → Hands ((List.range m).flatMap (fun i => (G i).2.2)) ((List.range m).flatMap (fun (j : Nat) => pathsP (rd_T24 ks (j : Int)) (p ++ ⟨#[47]⟩ ++ (rd_T24 ks (j : Int)).f0)))
  | 0, _ => ⟨rfl, fun x hx => by simp at hx⟩
  | m + 1, h => by
    obtain ⟨h1, h2⟩ := hands_kids w0 ad ks p G m (fun j hj => h j (by omega))
    obtain ⟨_, _, _, _, _, ⟨h3, h4⟩, _⟩ := h m (by omega)
    rw [List.range_succ, List.flatMap_append, List.flatMap_append]
    simp only [List.flatMap_cons, List.flatMap_nil, List.append_nil]
    refine ⟨by rw [List.map_append, h1, h3], fun x hx => ?_⟩
    rcases List.mem_append.1 hx with hx | hx
    · exact h2 x hx
    · exact h4 x hx
set_option maxRecDepth 100000 in
set_option maxHeartbeats 4000000 in
theorem walk_dir (w0 : World) (t : Tree) (hf : Fit t) (hk : t.f1 = 2) (ih : ∀ x ∈ t.f4, WalkOK w0 x) : WalkOK w0 t := by
  intro A c p hC hc hsz
  have hch : ∀ j : Nat, ∃ G : Option Addr × Nat × List (Array Value), ∀ ad, A = some ad → j < t.f4.length → KidOK w0 ad t.f4 p j G := by
    intro j
    by_cases hj : j < t.f4.length
    · obtain ⟨ad, A4, c4, hA, e0, e1, e2, e3, e4, l4, g4⟩ := at_T24 hC (j : Int) (by omega) (by omega)
      have hmem : rd_T24 t.f4 (j : Int) ∈ t.f4 := by rw [rd_at t.f4 j hj]; exact List.getElem_mem hj
      have hd : 1 + depthP (rd_T24 t.f4 (j : Int)) ≤ depthP t := by
        rw [depthP_eq t, if_pos hk]
        have := depthK_mem t.f4 _ hmem
        omega
      have hnm := (hf.kid _ hmem).name
      obtain ⟨xs, hx, hit⟩ := ih _ hmem A4 c4 (p ++ ⟨#[47]⟩ ++ (rd_T24 t.f4 (j : Int)).f0) g4 l4 (by
        have e1 : (⟨#[47]⟩ : ByteArray).size = 1 := rfl
        rw [ByteArray.size_append, ByteArray.size_append, e1]; omega)
      rw [Int.toNat_natCast] at e0 e1 e2 e3 e4
      exact ⟨(A4, c4, xs), fun ad' h' _ => by
        obtain rfl : ad = ad' := Option.some.inj (hA.symm.trans h')
        exact ⟨e0, e1, e2, e3, e4, hx, hit⟩⟩
    · exact ⟨(none, 0, []), fun _ _ h => absurd h hj⟩
  obtain ⟨G, hG⟩ := Classical.axiomOfChoice hch
  clear hch ih
  refine ⟨#[.string p, .agg #[.string t.f0, .int .i64 t.f1, .bool t.f2, .string t.f3, .slice A t.f4.length c]] :: (List.range t.f4.length).flatMap (fun i => (G i).2.2), ?_, ?_⟩
  · rw [pathsP_eq, if_pos hk, pathsK_range]
    by_cases hn : t.f4.length = 0
    · rw [hn]
      exact ⟨rfl, fun x hx => ⟨p, t, A, c, by simpa [hn] using hx⟩⟩
    · obtain ⟨ad, _, _, hA, _⟩ := at_T24 hC 0 (by omega) (by omega)
      obtain ⟨h1, h2⟩ := hands_kids w0 ad t.f4 p G t.f4.length (fun j hj => hG j ad hA hj)
      refine ⟨by rw [List.map_cons, h1]; rfl, fun x hx => ?_⟩
      rcases List.mem_cons.1 hx with rfl | hx
      · exact ⟨p, t, A, c, rfl⟩
      · exact h2 x hx
  intro bp bn Z0 W hw0 hp hn hzp hzn hzl
  intro n l J hJ hJ0 hz0 hY
  have hu := Tryd.underlying24
  have hlen : (#[.string p, .agg #[.string t.f0, .int .i64 t.f1, .bool t.f2, .string t.f3, .slice A t.f4.length c]] :: (List.range t.f4.length).flatMap (fun i => (G i).2.2)).length = offs G t.f4.length := by simp [offs]; omega
  have HYS := Aside0.mk (fun (j i : Nat) (Z : Nat → Prop) (W1 : World) (hj : j < t.f4.length) (hi : i < (G j).2.2.length) (h1 : J (offs G j + i) Z W1) (h2 : Stp Z0 Z W W1) => (by
    obtain ⟨h3, h4⟩ := flat_get G #[.string p, .agg #[.string t.f0, .int .i64 t.f1, .bool t.f2, .string t.f3, .slice A t.f4.length c]] t.f4.length j i hj hi
    have := hY (offs G j + i) Z W1 h3 h1 h2
    rwa [h4] at this : YieldAt Fence.wide (n - 1) Tryd.prog l ((G j).2.2[i]) W1 fun e W' => e = .returned (.bool true) ∧ ∃ Z', J (offs G j + i + 1) Z' W' ∧ Stp Z Z' W1 W'))
  rw [hlen]
  refine callsIn_of_wp_marks Tryd.func48 rfl trivial ?_ rfl
  simp only [Tryd.ntmps48, List.size_toArray, List.length_cons, List.length_nil, Nat.reduceAdd, Nat.reduceSub, Array.replicate_succ, Array.replicate_zero, List.push_toArray, List.append_toArray, List.nil_append, List.cons_append]
  have AL := below_alloc (Below.refl _ W) (.cells #[.func (.yield l) #[] #[]] 76)
  have Y3 := Aside0.mk (heap_alloc_new W (.cells #[.func (.yield l) #[] #[]] 76))
  have N3 := Aside0.mk (blk_below hn AL)
  have P3 := Aside0.mk (blk_below hp AL)
  have S3 := Aside0.mk (Stp.of_below AL hz0)
  have J3 := Aside0.mk (hJ 0 Z0 W (W.alloc (.cells #[.func (.yield l) #[] #[]] 76)) hJ0 (AL.mono (Nat.zero_le _)) (fun k hk _ => AL.block k hk))
  obtain ⟨fn, tm, as_, bo, hy, hR⟩ := hY 0 Z0 _ (by simp) J3.out S3.out
  simp only [List.getElem_cons_zero] at hy
  have HR := Aside0.mk hR
  have hkb : (t.f1 != 2) = false := bne_eq_false_iff_eq.mpr hk
  have HZ := Aside0.mk (And.intro hzp (And.intro hzn hz0))
  have HJ := Aside0.mk hJ
  have HG := Aside0.mk hG
  have HW0 := Aside0.mk hw0
  have HZL := Aside0.mk hzl
  have HC := Aside0.mk hC
  have HSZ := Aside0.mk hsz
  have HF := Aside0.mk hf
  have HK := Aside0.mk hk
  clear hR J3 hJ hJ0 hz0 hY hw0 hC hsz hzl hG hlen hf hk hzp hzn
  have c1 := (blk_cell P3.out 0).trans (rfl : _ = some (Value.string p))
  have z0 := (blk_cell N3.out 0).trans (rfl : _ = some (Value.string t.f0))
  have z1 := (blk_cell N3.out 1).trans (rfl : _ = some (Value.int .i64 t.f1))
  have z2 := (blk_cell N3.out 2).trans (rfl : _ = some (Value.bool t.f2))
  have z3 := (blk_cell N3.out 3).trans (rfl : _ = some (Value.string t.f3))
  have z4 := (blk_cell N3.out 4).trans (rfl : _ = some (Value.slice A t.f4.length c))
  gi_wp2_with fail
  refine ⟨fun h => by simp [Fence.wide] at h, HR.out.mono ?_⟩
  rintro e w4 ⟨rfl, Z1, hJ1, hS1⟩
  have Y4 := Aside0.mk ((hS1.keep W.heap.size (blk_lt Y3.out) (fun h => by have := HZ.out.2.2 _ h; omega)).trans Y3.out)
  have N4 := Aside0.mk ((hS1.keep bn (blk_lt N3.out) HZ.out.2.1).trans N3.out)
  have P4 := Aside0.mk ((hS1.keep bp (blk_lt P3.out) HZ.out.1).trans P3.out)
  have J4 := Aside0.mk hJ1
  have S4 := Aside0.mk hS1
  clear hJ1 hS1 c1 z0 z1 z2 z3 z4 hy HR
  have z1 := (blk_cell N4.out 1).trans (rfl : _ = some (Value.int .i64 t.f1))
  have z4 := (blk_cell N4.out 4).trans (rfl : _ = some (Value.slice A t.f4.length c))
  gi_wp2_with fail
  clear z1 z4
  have H3 := Aside0.mk (show (W.alloc (.cells #[.func (.yield l) #[] #[]] 76)).heap.size = W.heap.size + 1 ∧ Below W.heap.size W (W.alloc (.cells #[.func (.yield l) #[] #[]] 76)) from ⟨Array.size_push _, AL⟩)
  clear AL
  generalize W.alloc (.cells #[.func (.yield l) #[] #[]] 76) = W3 at Y3 N3 P3 S3 S4 H3
  obtain ⟨b3, hb3⟩ : ∃ b3, W.heap.size = b3 := ⟨_, rfl⟩
  have HB3 := Aside0.mk hb3
  rw [hb3] at Y3 Y4 ⊢
  clear hb3
  have HL4 := Aside0.mk (show LInv J G Z0 Z1 W3 w4 0 [] from ⟨by have := J4.out; simpa [offs] using this, S4.out, (fun D hD => absurd hD (by simp)), List.nodup_nil⟩)
  clear J4 S4 N4 P4 Y4
  have hln : t.f4.length ≤ 9223372036854775807 := HC.out.2.1
  refine wpIn_loop (fun a wr => ∃ (j : Nat) (ds : List Nat) (Z : Nat → Prop) (u5 u22 u23 u24 u25 u26 u27 u28 u29 u30 u31 u39 : Value), a = LAct l bp bn b3 p t A c j ds u5 u22 u23 u24 u25 u26 u27 u28 u29 u30 u31 u39 ∧ j ≤ t.f4.length ∧ LInv J G Z0 Z W3 wr j ds) (fun a _ => t.f4.length - (intOf (a.tmps.getD 21 undef)).toNat)
    ⟨0, [], Z1, undef, undef, undef, undef, undef, undef, undef, undef, undef, undef, undef, undef, rfl, Nat.zero_le _, HL4.out⟩ ?_
  rintro _ wr ⟨j, ds, Z, u5, u22, u23, u24, u25, u26, u27, u28, u29, u30, u31, u39, rfl, hj, hinv⟩
  have HI := Aside0.mk hinv
  clear hinv HL4
  unfold LAct
  by_cases hlt : j < t.f4.length
  · obtain ⟨ad, _, _, hA, _⟩ := at_T24 HC.out (j : Int) (by omega) (by omega)
    obtain ⟨e0, e1, e2, e3, e4, hx, hit⟩ := HG.out j ad hA hlt
    subst hA
    have hxm : rd_T24 t.f4 (j : Int) ∈ t.f4 := by rw [rd_at t.f4 j hlt]; exact List.getElem_mem hlt
    have hnm := (HF.out.kid _ hxm).name
    have hdp : 2 ≤ depthP t := by
      rw [depthP_eq t, if_pos HK.out]
      have := depthK_mem t.f4 _ hxm
      have := depthP_one (rd_T24 t.f4 (j : Int))
      omega
    have hps := HSZ.out
    generalize rd_T24 t.f4 (j : Int) = x at *
    generalize hGj : G j = Gj at *
    obtain ⟨A4, c4, xs⟩ := Gj
    dsimp only at e0 e1 e2 e3 e4 hx hit
    have HX := Aside0.mk hx
    have HIT := Aside0.mk hit
    have HGJ := Aside0.mk hGj
    have BW := Aside0.mk (show Below w0.heap.size w0 wr from by
      have h1 := HW0.out
      have h2 := HI.out.st
      have h3 := H3.out
      exact ⟨(h2.low.os.trans (h3.2.os)).trans h1.os, (h2.low.tape.trans (h3.2.tape)).trans h1.tape, (h2.low.output.trans (h3.2.output)).trans h1.output, Nat.le_trans h1.size (Nat.le_trans h3.2.size h2.size), fun k hk => ((h2.keep k (by have := h1.size; omega) (fun hz => by have := HZL.out k hz; omega)).trans (h3.2.block k (by have := h1.size; omega))).trans (h1.block k hk)⟩)
    have Y5 := Aside0.mk ((HI.out.st.keep b3 (blk_lt Y3.out) (fun h => by have := HZ.out.2.2 _ h; have := HB3.out; omega)).trans Y3.out)
    have P5 := Aside0.mk ((HI.out.st.keep bp (blk_lt P3.out) HZ.out.1).trans P3.out)
    have f0 := pw_cell_below BW.out e0
    have f1 := pw_cell_below BW.out e1
    have f2 := pw_cell_below BW.out e2
    have f3 := pw_cell_below BW.out e3
    have f4 := pw_cell_below BW.out e4
    have XL := Aside0.mk (below_alloc (Below.refl _ wr) (.cells #[.string x.f0, .int .i64 x.f1, .bool x.f2, .string x.f3, .slice A4 x.f4.length c4] 24))
    have P6 := Aside0.mk (blk_below P5.out XL.out)
    have c1 := (blk_cell P6.out 0).trans (rfl : _ = some (Value.string p))
    have hm1 : p.size + 1 ≤ 9223372036854775807 := by omega
    have hm2 : (p ++ (⟨#[47]⟩ : ByteArray)).size + x.f0.size ≤ 9223372036854775807 := by
      have e1 : (⟨#[47]⟩ : ByteArray).size = 1 := rfl
      rw [ByteArray.size_append, e1]; omega
    clear e0 e1 e2 e3 e4 hx hit hGj hxm hnm hdp hps
    gi_wp2_with fail
    refine ⟨trivial, fun h => by simp [Fence.wide] at h, (callsIn_wide.2 (walk_calls x A4 c4 (p ++ (⟨#[47]⟩ : ByteArray) ++ x.f0) _)).mono ?_⟩
    rintro e w5 ⟨rfl, rfl⟩
    gi_wp2_with fail
    clear c1 f0 f1 f2 f3 f4
    have AL5 : Below wr.heap.size wr (((wr.alloc (.cells #[.string x.f0, .int .i64 x.f1, .bool x.f2, .string x.f3, .slice A4 x.f4.length c4] 24)).alloc (.cells #[.string x.f0, .int .i64 x.f1, .bool x.f2, .string x.f3, .slice A4 x.f4.length c4] 24)).alloc (.cells #[.string (p ++ (⟨#[47]⟩ : ByteArray) ++ x.f0)] 9)) := ((XL.out.alloc XL.out.size _).alloc (Nat.le_trans XL.out.size (by simp)) _)
    have Z5 : (((wr.alloc (.cells #[.string x.f0, .int .i64 x.f1, .bool x.f2, .string x.f3, .slice A4 x.f4.length c4] 24)).alloc (.cells #[.string x.f0, .int .i64 x.f1, .bool x.f2, .string x.f3, .slice A4 x.f4.length c4] 24)).alloc (.cells #[.string (p ++ (⟨#[47]⟩ : ByteArray) ++ x.f0)] 9)).heap.size = wr.heap.size + 3 := by simp
    have M5 : (((wr.alloc (.cells #[.string x.f0, .int .i64 x.f1, .bool x.f2, .string x.f3, .slice A4 x.f4.length c4] 24)).alloc (.cells #[.string x.f0, .int .i64 x.f1, .bool x.f2, .string x.f3, .slice A4 x.f4.length c4] 24)).alloc (.cells #[.string (p ++ (⟨#[47]⟩ : ByteArray) ++ x.f0)] 9)).heap[wr.heap.size + 1]? = some (.cells #[.string x.f0, .int .i64 x.f1, .bool x.f2, .string x.f3, .slice A4 x.f4.length c4] 24 (0, 0)) := by
      have h1 := heap_alloc_new (wr.alloc (.cells #[.string x.f0, .int .i64 x.f1, .bool x.f2, .string x.f3, .slice A4 x.f4.length c4] 24)) (.cells #[.string x.f0, .int .i64 x.f1, .bool x.f2, .string x.f3, .slice A4 x.f4.length c4] 24)
      rw [World.size_alloc] at h1
      exact blk_alloc h1 _
    have Q5 : (((wr.alloc (.cells #[.string x.f0, .int .i64 x.f1, .bool x.f2, .string x.f3, .slice A4 x.f4.length c4] 24)).alloc (.cells #[.string x.f0, .int .i64 x.f1, .bool x.f2, .string x.f3, .slice A4 x.f4.length c4] 24)).alloc (.cells #[.string (p ++ (⟨#[47]⟩ : ByteArray) ++ x.f0)] 9)).heap[wr.heap.size + 1 + 1]? = some (.cells #[.string (p ++ (⟨#[47]⟩ : ByteArray) ++ x.f0)] 9 (0, 0)) := by
      have h1 := heap_alloc_new ((wr.alloc (.cells #[.string x.f0, .int .i64 x.f1, .bool x.f2, .string x.f3, .slice A4 x.f4.length c4] 24)).alloc (.cells #[.string x.f0, .int .i64 x.f1, .bool x.f2, .string x.f3, .slice A4 x.f4.length c4] 24)) (.cells #[.string (p ++ (⟨#[47]⟩ : ByteArray) ++ x.f0)] 9)
      rwa [World.size_alloc, World.size_alloc] at h1
    have XW := Aside0.mk (And.intro AL5 (And.intro Z5 (And.intro M5 Q5)))
    clear AL5 Z5 M5 Q5
    generalize ((wr.alloc (.cells #[.string x.f0, .int .i64 x.f1, .bool x.f2, .string x.f3, .slice A4 x.f4.length c4] 24)).alloc (.cells #[.string x.f0, .int .i64 x.f1, .bool x.f2, .string x.f3, .slice A4 x.f4.length c4] 24)).alloc (.cells #[.string (p ++ (⟨#[47]⟩ : ByteArray) ++ x.f0)] 9) = W5 at XW ⊢
    have hzk : ∀ k, Z k → k < wr.heap.size := HI.out.st.lt
    have ST5 := Aside0.mk (show Stp Z0 Z W W5 from (S3.out.trans HI.out.st).trans (Stp.of_below XW.out.1 hzk))
    have HPS := Aside0.mk (show ∀ x ∈ xs, x.size = 2 from fun a ha => by obtain ⟨q, y, Ay, cy, rfl⟩ := HX.out.2 a ha; rfl)
    have BW5 := Aside0.mk (show Below w0.heap.size w0 W5 from below_then BW.out BW.out.size XW.out.1)
    have ZL := Aside0.mk (show ∀ k, Z k → w0.heap.size ≤ k from fun k hz => by
      rcases HI.out.st.grow k hz with h1 | h1
      · exact HZL.out k h1
      · have := H3.out.1; have := HW0.out.size; omega)
    have ZB := Aside0.mk (show ¬ Z b3 ∧ b3 < wr.heap.size from ⟨fun h => by
      rcases HI.out.st.grow b3 h with h1 | h1
      · have := HZ.out.2.2 _ h1; have := HB3.out; omega
      · have := blk_lt Y3.out; omega, blk_lt Y5.out⟩)
    clear hzk
    refine wpIn_range_all (gf := 48) (lb := #[.pointer (some ⟨wr.heap.size + 1 + 1, 0, none⟩), .pointer (some ⟨wr.heap.size + 1, 0, none⟩)]) rfl (enters_of Tryd.func48 (by kernel_rfl) rfl) xs (fun a ha => HPS.out a ha) Z
      (fun k hz => by have := HI.out.st.lt k hz; have := XW.out.2.1; omega)
      (fun W' hW' => HIT.out _ _ Z W' (below_then BW5.out BW5.out.size hW') (blk_below XW.out.2.2.2 hW') (blk_below XW.out.2.2.1 hW') (fun h => by have := HI.out.st.lt _ h; omega) (fun h => by have := HI.out.st.lt _ h; omega) ZL.out)
      (fun i Z' W' => J (offs G j + i) Z' W')
      (fun i Z' W1 W' h hb hk => HJ.out _ _ _ _ h hb (fun k hlt hc => hk k hlt (hc.imp (fun hc => by have := ST5.out.size; omega) id)))
      (HJ.out _ _ _ _ HI.out.jj (XW.out.1.mono (Nat.zero_le _)) (fun k hk _ => XW.out.1.block k hk)) ?_ ?_
    · intro l' i Z' W' hlx hle hi hst hnl hll
      obtain ⟨q, y, Ay, cy, hxi⟩ := HX.out.2 xs[i] (List.getElem_mem hlx)
      rw [hxi]
      have HXI := Aside0.mk hxi
      have HI' := Aside0.mk hi
      have HST := Aside0.mk hst
      have HNL := Aside0.mk (And.intro hnl (And.intro hle hll))
      clear hxi hi hst hnl hle hll
      gi_wp2_with fail
      refine ⟨below_alloc (Below.refl _ W') _, fun W6 hb6 hs6 hk6 => ?_⟩
      have YY : W6.heap[b3]? = some (.cells #[.func (.yield l) #[] #[]] 76 (0, 0)) := by
        have h1 : W'.heap[b3]? = some (.cells #[.func (.yield l) #[] #[]] 76 (0, 0)) := (HST.out.keep b3 (by have := ZB.out.2; have := XW.out.2.1; omega) ZB.out.1).trans (blk_below Y5.out XW.out.1)
        exact (hk6 b3 (by have := HNL.out.2.1; have := ZB.out.2; have := XW.out.2.1; omega)).trans (blk_alloc h1 _)
      have NN : W6.heap[W'.heap.size]? = some (.cells #[.string y.f0, .int .i64 y.f1, .bool y.f2, .string y.f3, .slice Ay y.f4.length cy] 24 (0, 0)) := (hk6 _ (by have := HNL.out.2.2; omega)).trans (heap_alloc_new W' _)
      have LW : Below 0 W' W6 := below0_trans ((below_alloc (Below.refl _ W') (.cells #[.string y.f0, .int .i64 y.f1, .bool y.f2, .string y.f3, .slice Ay y.f4.length cy] 24)).mono (Nat.zero_le _)) hb6
      have JW : J (offs G j + i) Z' W6 := HJ.out _ _ _ _ HI'.out LW (fun k hk hc => (hk6 k (by
        rintro rfl
        rcases hc with hc | hc
        · have := ST5.out.size; have := HNL.out.2.1; omega
        · exact HNL.out.1 hc)).trans ((below_alloc (Below.refl _ W') (.cells #[.string y.f0, .int .i64 y.f1, .bool y.f2, .string y.f3, .slice Ay y.f4.length cy] 24)).block k hk))
      have h7 : Stp Z0 Z' W W' := ST5.out.trans HST.out
      have SW : Stp Z0 Z' W W6 := ⟨below0_trans h7.low LW, fun k hk hz => (hk6 k (by have := ST5.out.size; have := HNL.out.2.1; omega)).trans (((below_alloc (Below.refl _ W') (.cells #[.string y.f0, .int .i64 y.f1, .bool y.f2, .string y.f3, .slice Ay y.f4.length cy] 24)).block k (Nat.lt_of_lt_of_le hk h7.size)).trans (h7.keep k hk hz)), h7.grow, fun k hz => Nat.lt_of_lt_of_le (h7.lt k hz) LW.size⟩
      obtain ⟨fn', tm', as', bo', hy, hR⟩ := HYS.out j i Z' W6 hlt (by rw [HGJ.out]; exact hlx) JW SW
      simp only [HGJ.out, HXI.out] at hy
      have HR := Aside0.mk (roundIn_any l' (n - 1 - 1 - 1) hR)
      clear hR JW SW h7 LW hk6 hb6 hs6
      have c1 := (blk_cell YY 0).trans (rfl : _ = some (Value.func (.yield l) #[] #[]))
      have z0 := (blk_cell NN 0).trans (rfl : _ = some (Value.string y.f0))
      have z1 := (blk_cell NN 1).trans (rfl : _ = some (Value.int .i64 y.f1))
      have z2 := (blk_cell NN 2).trans (rfl : _ = some (Value.bool y.f2))
      have z3 := (blk_cell NN 3).trans (rfl : _ = some (Value.string y.f3))
      have z4 := (blk_cell NN 4).trans (rfl : _ = some (Value.slice Ay y.f4.length cy))
      clear YY NN
      gi_wp2_with fail
      refine ⟨fun h => by simp [Fence.wide] at h, HR.out.mono ?_⟩
      rintro e w6 ⟨rfl, Z2, hj2, hs2⟩
      have JJ := Aside0.mk hj2
      have SS := Aside0.mk hs2
      clear hj2 hs2 HR hy c1 z0 z1 z2 z3 z4
      gi_wp2_with fail
      exact ⟨Z2, JJ.out, SS.out⟩
    · intro D Z' W' hle hi hst hD hnD
      have hw : wrap64 ((j : Int) + 1) = ((j + 1 : Nat) : Int) := by unfold wrap64; omega
      have HD := Aside0.mk (And.intro hle (And.intro hi (And.intro hst (And.intro hD hnD))))
      clear hle hi hst hD hnD
      gi_wp2_with fail
      refine ⟨⟨j + 1, D :: ds, Z', _, _, _, _, _, _, _, _, _, _, _, _, rfl, by omega, ?_⟩, ?_⟩
      · obtain ⟨hle, hi, hst, hD, hnD⟩ := HD.out
        have hsw := XW.out.2.1
        refine ⟨by rw [offs_succ, HGJ.out]; exact hi, (HI.out.st.trans (Stp.of_below XW.out.1 HI.out.st.lt)).trans hst, fun E hE => ?_, List.nodup_cons.2 ⟨fun hE => by have := (HI.out.dd D hE).2.1; omega, HI.out.nd⟩⟩
        rcases List.mem_cons.1 hE with rfl | hE
        · exact ⟨by have := HI.out.st.size; omega, (Array.getElem?_eq_some_iff.1 hD).1, hD, hnD⟩
        · obtain ⟨d1, d2, d3, d4⟩ := HI.out.dd E hE
          exact ⟨d1, by have := hst.size; omega, ((hst.keep E (by omega) d4).trans (XW.out.1.block E d2)).trans d3, fun hz => by
            rcases hst.grow E hz with h1 | h1
            · exact d4 h1
            · omega⟩
      · simp [LAct, intOf]; omega
  · gi_wp2_with fail
    have hjn : j = t.f4.length := by omega
    subst hjn
    show LeavesInM Fence.wide n _ _ _ _ (marks ds) .returning wr
    refine leaves_marks (fun W' => J (offs G t.f4.length) Z W' ∧ Stp Z0 Z W W') (fun W' _ => res_none _ W') (fun W' hK => ⟨⟨_, rfl⟩, Z, hK⟩) ds wr HI.out.nd (fun D hD => (HI.out.dd D hD).2.2.1) (fun W' D hD hK => ?_) ⟨HI.out.jj, S3.out.trans HI.out.st⟩
    obtain ⟨d1, d2, d3, d4⟩ := HI.out.dd D hD
    refine ⟨HJ.out _ _ _ _ hK.1 (below0_putObj _ _ _) (fun k hk hc => World.putObj_heap_other (by
      rintro rfl
      rcases hc with hc | hc
      · have := H3.out.1; omega
      · exact d4 hc)), ⟨below0_trans hK.2.low (below0_putObj _ _ _), fun k hk hz => (World.putObj_heap_other (by have := H3.out.1; omega)).trans (hK.2.keep k hk hz), hK.2.grow, fun k hz => by simp; exact hK.2.lt k hz⟩⟩
/-- Every node's iterator. -/
theorem walk_ok (w0 : World) (t : Tree) (hf : Fit t) : WalkOK w0 t := by
  induction hf with
  | mk t h0 h1 h3 h4 hk ih =>
    by_cases h : t.f1 = 2
    · exact walk_dir w0 t (Fit.mk t h0 h1 h3 h4 hk) h ih
    · exact walk_leaf w0 t h
end Go.Proofs.YtalljcjignaafaaDoor.PB

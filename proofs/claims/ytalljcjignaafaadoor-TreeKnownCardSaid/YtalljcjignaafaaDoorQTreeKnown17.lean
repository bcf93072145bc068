import Derived.Lib.IndexLaws
import Derived.Test.YtalljcjignaafaaDoorQTreeKnown1
import Derived.Test.YtalljcjignaafaaDoorQTreeKnown11
import Derived.Test.YtalljcjignaafaaDoorQTreeKnown16
namespace Go.Proofs.YtalljcjignaafaaDoor.PB
open Go Go.RowKit Go.Proofs.YtalljcjignaafaaDoor Go.Proofs.YtalljcjignaafaaDoorW.PrintWords Go.Proofs.YtalljcjignaafaaDoorW.PrintLast
attribute [local go_sem] Oper.semAt_some
set_option linter.unusedVariables false
set_option linter.unusedSimpArgs false
def splitB : Nat → ByteArray → List ByteArray
  | 0, s => [s]
  | n + 1, s => if Lib.indexByte s.data.toList 47 < 0 then [s] else s.extract 0 (Lib.indexByte s.data.toList 47).toNat :: splitB n (s.extract ((Lib.indexByte s.data.toList 47).toNat + 1) s.size)
def splitP (s : ByteArray) : List ByteArray := splitB s.size s
theorem split_calls (s : ByteArray) (w : World) : Calls Tryd.prog 23 #[.string s, .string ⟨#[47]⟩] w fun e w' =>
    e = .returned (.func (.func 57) #[] #[.pointer (some ⟨w.heap.size + 1, 0, none⟩), .pointer (some ⟨w.heap.size, 0, none⟩), .pointer (some ⟨w.heap.size + 1 + 1, 0, none⟩)]) ∧
    w' = ((w.alloc (.cells #[.string s] 9)).alloc (.cells #[.string ⟨#[47]⟩] 9)).alloc (.cells #[.int .i64 0] 3) := by
  have hmf : ∀ (fn : Fn) (first cap : Array Value) (W : World), (Instr.makeFunc fn first cap).run Tryd.prog W = .ok (.func fn first cap) W := fun _ _ _ _ => rfl
  have h1 : Calls Tryd.prog 39 #[.string s, .string ⟨#[47]⟩, .int .i64 0] w fun e w' =>
      e = .returned (.func (.func 57) #[] #[.pointer (some ⟨w.heap.size + 1, 0, none⟩), .pointer (some ⟨w.heap.size, 0, none⟩), .pointer (some ⟨w.heap.size + 1 + 1, 0, none⟩)]) ∧
      w' = ((w.alloc (.cells #[.string s] 9)).alloc (.cells #[.string ⟨#[47]⟩] 9)).alloc (.cells #[.int .i64 0] 3) := by
    go_enter Tryd.func39, Tryd.ntmps39
    go_wp2
    go_ret
    exact ⟨rfl, rfl⟩
  have H1 := Aside0.mk h1
  clear h1 hmf
  go_enter Tryd.func23, Tryd.ntmps23
  go_wp2_with (go_at_call 39; refine H1.out.mono ?_; rintro e w1 ⟨rfl, rfl⟩)
  go_ret
  exact ⟨rfl, rfl⟩
theorem StpO.stop {O Z0 Z Z' : Nat → Prop} {l : Nat} {A B C : World} (h : StpO O Z0 Z A B) (k : Stp (fun i => Z i ∨ i = l) Z' B C) : StpO O (fun i => Z0 i ∨ i = l) Z' A C :=
  ⟨below0_trans h.low k.low, fun i hi hz ho => (k.keep i (Nat.lt_of_lt_of_le hi h.size) (fun hz1 => by
      rcases hz1 with hz1 | hz1
      · rcases h.grow i hz1 with h1 | h1
        · exact hz (.inl h1)
        · omega
      · exact hz (.inr hz1))).trans (h.keep i hi (fun h => hz (.inl h)) ho),
    fun i hi => by
      rcases k.grow i hi with (h1 | h1) | h1
      · rcases h.grow i h1 with h2 | h2
        · exact .inl (.inl h2)
        · exact .inr h2
      · exact .inl (.inr h1)
      · exact .inr (Nat.le_trans h.size h1), k.lt⟩
def SAct (l bsep bs bz : Nat) (u7 u8 u29 u30 u31 u32 u33 u34 u35 u36 u37 u38 u39 u40 u41 u42 u43 u44 u45 u46 u47 u48 : Value) : Act :=
  { tmps := #[Value.func (.yield l) #[] #[], Value.pointer (some ⟨bsep, 0, none⟩), Value.pointer (some ⟨bs, 0, none⟩), Value.pointer (some ⟨bz, 0, none⟩), undef, undef, undef, u7, u8, Value.string ⟨#[47]⟩, Value.int .i64 1, Value.bool false, undef, undef, undef, undef, undef, undef, undef, undef, undef, undef, undef, undef, undef, undef, undef, undef, undef, u29, u30, u31, u32, u33, u34, u35, u36, u37, u38, u39, u40, u41, u42, u43, u44, u45, u46, u47, u48, undef, undef, undef], defers := [] }
structure SInv (J : Nat → (Nat → Prop) → World → Prop) (Z0 Z : Nat → Prop) (W wr : World) (bs : Nat) (s s' : ByteArray) (n : Nat) (pre : List ByteArray) : Prop where
  jj : J pre.length Z wr
  st : StpO (fun k => k = bs) Z0 Z W wr
  sp : splitP s = pre ++ splitB n s'
  sz : s'.size ≤ n ∧ n ≤ s.size
  bx : wr.heap[bs]? = some (.cells #[.string s'] 9 (0, 0))
def sizeAt (bs : Nat) (w : World) : Nat := match w.cell? ⟨bs, 0, none⟩ with
  | some (.string q) => q.size
  | _ => 0
theorem res_split (tmps : Array Value) (W : World) : (results Tryd.f57 tmps).run Tryd.prog W = .ok (.tuple #[]) W := by
  simp [results, show Tryd.f57.results = #[] from rfl]
set_option maxRecDepth 100000 in
set_option maxHeartbeats 4000000 in
theorem splitIt (s : ByteArray) (hs : s.size ≤ 4611686018427387904) (bsep bs bz : Nat) (Z0 : Nat → Prop) (W : World) (h1 : W.heap[bsep]? = some (.cells #[.string ⟨#[47]⟩] 9 (0, 0))) (h2 : W.heap[bs]? = some (.cells #[.string s] 9 (0, 0))) (h3 : W.heap[bz]? = some (.cells #[.int .i64 0] 3 (0, 0)))
    (hd1 : bsep ≠ bs) (hd2 : bz ≠ bs) (hz1 : ¬ Z0 bsep) (hz2 : ¬ Z0 bs) (hz3 : ¬ Z0 bz) :
    ItSome Tryd.prog 57 #[.pointer (some ⟨bsep, 0, none⟩), .pointer (some ⟨bs, 0, none⟩), .pointer (some ⟨bz, 0, none⟩)] ((splitP s).map fun q => #[.string q]) (fun k => k = bs) Z0 W := by
  intro n l J Jx hJ hJx hJ0 hz0 hY
  have HY := Aside0.mk hY
  have HJ := Aside0.mk hJ
  have HJx := Aside0.mk hJx
  have HZ := Aside0.mk (And.intro hz1 (And.intro hz2 (And.intro hz3 (And.intro hd1 (And.intro hd2 hz0)))))
  have N1 := Aside0.mk h1
  have N3 := Aside0.mk h3
  have HI0 := Aside0.mk (show SInv J Z0 Z0 W W bs s s s.size [] from ⟨hJ0, (Stp.refl hz0).o, rfl, ⟨Nat.le_refl _, Nat.le_refl _⟩, h2⟩)
  have HS := Aside0.mk hs
  clear hY hJ hJx hz1 hz2 hz3 hd1 hd2 hz0 h3 h2 hJ0 hs
  refine callsIn_of_wp_marks Tryd.func57 rfl trivial ?_ rfl
  simp only [Tryd.ntmps57, List.size_toArray, List.length_cons, List.length_nil, Nat.reduceAdd, Nat.reduceSub, Array.replicate_succ, Array.replicate_zero, List.push_toArray, List.append_toArray, List.nil_append, List.cons_append]
  have c1 := (blk_cell h1 0).trans (rfl : _ = some (Value.string ⟨#[47]⟩))
  clear h1
  gi_wp2_with fail
  clear c1
  refine wpIn_loop (fun a wr => ∃ (m : Nat) (s' : ByteArray) (pre : List ByteArray) (Z : Nat → Prop) (u7 u8 u29 u30 u31 u32 u33 u34 u35 u36 u37 u38 u39 u40 u41 u42 u43 u44 u45 u46 u47 u48 : Value), a = SAct l bsep bs bz u7 u8 u29 u30 u31 u32 u33 u34 u35 u36 u37 u38 u39 u40 u41 u42 u43 u44 u45 u46 u47 u48 ∧ SInv J Z0 Z W wr bs s s' m pre) (fun _ w => sizeAt bs w)
    ⟨s.size, s, [], Z0, undef, undef, undef, undef, undef, undef, undef, undef, undef, undef, undef, undef, undef, undef, undef, undef, undef, undef, undef, undef, undef, undef, rfl, HI0.out⟩ ?_
  rintro _ wr ⟨m, s', pre, Z, u7, u8, u29, u30, u31, u32, u33, u34, u35, u36, u37, u38, u39, u40, u41, u42, u43, u44, u45, u46, u47, u48, rfl, hinv⟩
  have HI := Aside0.mk hinv
  have B0 := Aside0.mk hinv.bx
  have B1 := Aside0.mk ((hinv.st.keep bsep (blk_lt N1.out) HZ.out.1 HZ.out.2.2.2.1).trans N1.out)
  have B3 := Aside0.mk ((hinv.st.keep bz (blk_lt N3.out) HZ.out.2.2.1 HZ.out.2.2.2.2.1).trans N3.out)
  have hsz := hinv.bx
  have hbsW : bs < W.heap.size := blk_lt (HI0.out.bx)
  have HNZ := Aside0.mk (show ¬ Z bs from fun h => by
    rcases hinv.st.grow bs h with h1 | h1
    · exact HZ.out.2.1 h1
    · omega)
  clear hinv hsz
  unfold SAct
  have x0 := (blk_cell B0.out 0).trans (rfl : _ = some (Value.string s'))
  have x1 := (blk_cell B1.out 0).trans (rfl : _ = some (Value.string ⟨#[47]⟩))
  have x3 := (blk_cell B3.out 0).trans (rfl : _ = some (Value.int .i64 0))
  have HSA := Aside0.mk (show sizeAt bs wr = s'.size from by unfold sizeAt; rw [x0])
  have HIX := Aside0.mk (Tryd.strings_Index_one s' 47 wr)
  have HLEN := Aside0.mk (show ((splitP s).map fun q => (#[Value.string q] : Array Value)).length = pre.length + (splitB m s').length from by rw [List.length_map, HI.out.sp, List.length_append])
  by_cases hneg : Lib.indexByte s'.data.toList 47 < 0
  · have hsp : splitB m s' = [s'] := by
      cases m with
      | zero => rfl
      | succ m => show (if _ then _ else _) = _; rw [if_pos hneg]
    have hk : pre.length < ((splitP s).map fun q => (#[Value.string q] : Array Value)).length := by rw [HLEN.out, hsp]; simp
    have hxk : ((splitP s).map fun q => (#[Value.string q] : Array Value))[pre.length] = #[.string s'] := by
      rw [List.getElem_map]
      congr 2
      have : (splitP s)[pre.length]'(by rwa [List.length_map] at hk) = (pre ++ [s'])[pre.length]'(by simp) := by simp only [HI.out.sp, hsp]
      rw [this]; simp
    obtain ⟨fn, tm, as_, bo, hy, hR⟩ := HY.out pre.length Z wr hk HI.out.jj HI.out.st
    rw [hxk] at hy
    have HR := Aside0.mk hR
    have HXL := Aside0.mk (show ((splitP s).map fun q => (#[Value.string q] : Array Value)).length = pre.length + 1 from by rw [HLEN.out, hsp]; rfl)
    have hdec : decide (Lib.indexByte s'.data.toList 47 < 0) = true := decide_eq_true hneg
    clear hR hk hxk hsp hneg
    gi_wp2_with fail
    refine ⟨trivial, fun h => by simp [Fence.wide] at h, (callsIn_wide.2 HIX.out).mono ?_⟩
    rintro e w1 ⟨rfl, rfl⟩
    gi_wp2_with fail
    refine ⟨fun h => by simp [Fence.wide] at h, HR.out.mono ?_⟩
    rintro e w2 (⟨rfl, Z', hj, hst⟩ | ⟨rfl, Z', hj, hst⟩)
    · have E1 := Aside0.mk (show ∃ Z', J (pre.length + 1) Z' w2 ∧ StpO (fun k => k = bs) Z0 Z' W w2 from ⟨Z', hj, HI.out.st.trans hst.o⟩)
      clear hj hst x0 x1 x3 hy
      gi_wp2_with fail
      exact ⟨_, res_split _ _, ⟨_, rfl⟩, .inl (by rw [HXL.out]; exact E1.out)⟩
    · have E1 := Aside0.mk (show ∃ i Z', Jx i Z' w2 ∧ StpO (fun k => k = bs) (fun k => Z0 k ∨ k = l) Z' W w2 from ⟨_, Z', hj, StpO.stop HI.out.st hst⟩)
      clear hj hst x0 x1 x3 hy
      gi_wp2_with fail
      exact ⟨_, res_split _ _, ⟨_, rfl⟩, .inr E1.out⟩
  · obtain ⟨o, ho⟩ : ∃ o : Nat, Lib.indexByte s'.data.toList 47 = (o : Int) := ⟨(Lib.indexByte s'.data.toList 47).toNat, by omega⟩
    obtain ⟨hso, -⟩ := Lib.indexByte_some ho
    have hol : o < s'.size := (List.getElem?_eq_some_iff.1 hso).1
    obtain ⟨m, rfl⟩ : ∃ k, m = k + 1 := ⟨m - 1, by have := HI.out.sz.1; omega⟩
    have hsp : splitB (m + 1) s' = s'.extract 0 o :: splitB m (s'.extract (o + 1) s'.size) := by
      show (if _ then _ else _) = _
      rw [if_neg hneg, ho, Int.toNat_natCast]
    have hk : pre.length < ((splitP s).map fun q => (#[Value.string q] : Array Value)).length := by rw [HLEN.out, hsp]; simp
    have hxk : ((splitP s).map fun q => (#[Value.string q] : Array Value))[pre.length] = #[.string (s'.extract 0 o)] := by
      rw [List.getElem_map]
      congr 2
      have : (splitP s)[pre.length]'(by rwa [List.length_map] at hk) = (pre ++ s'.extract 0 o :: splitB m (s'.extract (o + 1) s'.size))[pre.length]'(by simp) := by simp only [HI.out.sp, hsp]
      rw [this]; simp
    obtain ⟨fn, tm, as_, bo, hy, hR⟩ := HY.out pre.length Z wr hk HI.out.jj HI.out.st
    rw [hxk] at hy
    have HR := Aside0.mk hR
    have HSP := Aside0.mk (show splitP s = (pre ++ [s'.extract 0 o]) ++ splitB m (s'.extract (o + 1) s'.size) from by rw [HI.out.sp, hsp]; simp)
    have hss : s'.size ≤ s.size := by
      have h9 := HI.out.sz
      omega
    have hsm : (s'.size : Int) ≤ 4611686018427387904 := by have := HS.out; omega
    rw [ho] at HIX
    have hol' : (o : Int) < (s'.size : Int) := by omega
    clear hR hk hxk hsp hneg ho hso
    gi_wp2_with fail
    refine ⟨trivial, fun h => by simp [Fence.wide] at h, (callsIn_wide.2 HIX.out).mono ?_⟩
    rintro e w1 ⟨rfl, rfl⟩
    have hw0 : wrap64 ((o : Int) + 0) = (o : Int) := by unfold wrap64; omega
    have hw1 : wrap64 ((o : Int) + 1) = ((o + 1 : Nat) : Int) := by unfold wrap64; omega
    gi_wp2_with fail
    refine ⟨fun h => by simp [Fence.wide] at h, HR.out.mono ?_⟩
    rintro e w2 (⟨rfl, Z', hj, hst⟩ | ⟨rfl, Z', hj, hst⟩)
    · have B2 := Aside0.mk ((hst.keep bs (blk_lt B0.out) HNZ.out).trans B0.out)
      have C2 := Aside0.mk ((hst.keep bsep (blk_lt B1.out) (fun h => by
        rcases HI.out.st.grow bsep h with h1 | h1
        · exact HZ.out.1 h1
        · have := blk_lt N1.out; omega)).trans B1.out)
      have E1 := Aside0.mk (And.intro hj hst)
      clear hj hst x0 x1 x3 hy
      have y0 := (blk_cell B2.out 0).trans (rfl : _ = some (Value.string s'))
      have y1 := blk_nofreeze B2.out 0
      have y2 := (blk_cell C2.out 0).trans (rfl : _ = some (Value.string ⟨#[47]⟩))
      gi_wp2_with fail
      obtain ⟨hj, hst⟩ := E1.out
      have hnz : ¬ Z' bs := fun h => by
        rcases hst.grow bs h with h1 | h1
        · exact HNZ.out h1
        · have := blk_lt B0.out; omega
      have hS := HI.out.st.trans (hst.o (O := fun k => k = bs))
      refine ⟨⟨m, s'.extract (o + 1) s'.size, pre ++ [s'.extract 0 o], Z', _, _, _, _, _, _, _, _, _, _, _, _, _, _, _, _, _, _, _, _, _, _, rfl, ⟨?_, ?_, HSP.out, ?_, (blk_store (l := [_]) B2.out 0 _).trans rfl⟩⟩, ?_⟩
      · rw [List.length_append]
        refine HJ.out _ _ _ _ hj ((Below.refl 0 w2).setCell (p := ⟨bs, 0, none⟩) (Nat.zero_le _) _) (fun k hk hc => Below.heap_setCell w2 ⟨bs, 0, none⟩ _ k ?_)
        rcases hc with ⟨_, h2⟩ | h2
        · exact h2
        · intro e
          have e2 : k = bs := e
          rw [e2] at h2
          exact hnz h2
      · exact ⟨below0_trans hS.low ((Below.refl 0 w2).setCell (p := ⟨bs, 0, none⟩) (Nat.zero_le _) _), fun k hk hz ho => (Below.heap_setCell w2 ⟨bs, 0, none⟩ _ k ho).trans (hS.keep k hk hz ho), hS.grow, fun k hz => by simp; exact hS.lt k hz⟩
      · have h9 := HI.out.sz
        rw [ByteArray.size_extract]
        omega
      · have e : sizeAt bs (w2.setCell ⟨bs, 0, none⟩ (.string (s'.extract (o + 1) s'.size))) = (s'.extract (o + 1) s'.size).size := by
          unfold sizeAt
          rw [World.cell?_setCell_same' _ _ _ (by rw [y0]; rfl)]
        rw [e, HSA.out, ByteArray.size_extract]
        omega
    · have E1 := Aside0.mk (show ∃ i Z', Jx i Z' w2 ∧ StpO (fun k => k = bs) (fun k => Z0 k ∨ k = l) Z' W w2 from ⟨_, Z', hj, StpO.stop HI.out.st hst⟩)
      clear hj hst x0 x1 x3 hy
      gi_wp2_with fail
      exact ⟨_, res_split _ _, ⟨_, rfl⟩, .inr E1.out⟩
end Go.Proofs.YtalljcjignaafaaDoor.PB

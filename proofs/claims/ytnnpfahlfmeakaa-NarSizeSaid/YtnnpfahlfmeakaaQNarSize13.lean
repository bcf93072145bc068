import Derived.Test.YtnnpfahlfmeakaaProg
import Derived.WalkKit
import Derived.BigQuiet
import Derived.Deep.QuietTactic
import Derived.StillTailTactics
import Derived.Laws.CopyOwn
import Derived.Lib.BufferWrite
import Derived.Test.YtnnpfahlfmeakaaQNarSize5
import Derived.Test.YtnnpfahlfmeakaaQNarSize10
namespace Go.Proofs.Ytnnpfahlfmeakaa
open Go.RowKit Go.Proofs.YtnnpfahlfmeakaaW.PrintWords
set_option linter.unusedVariables false
set_option linter.unusedSimpArgs false
theorem info_u8 : (Try.prog.info? 5).map (fun i => (i.zero, i.size, i.bytes)) = some (some (.int .u8 0), 1, 1) := by kernel_rfl
theorem arr10 : Try.prog.arrayLen 86 = 10 := by kernel_rfl
theorem elem10 : Try.prog.elem 86 = 5 := by kernel_rfl
set_option maxRecDepth 100000 in
set_option maxHeartbeats 1000000 in
theorem putNum_any (s : ByteArray) (n : Nat) (hn : n < 18446744073709551616) (hs : s.size ≤ 281474976710000) (w : World) :
    Calls Try.prog 41 #[.string s, .int .u64 n] w fun e w' => e = .returned (.string (s ++ encNum n)) ∧ Below w.heap.size w w' := by
  have hN := Aside0.mk hn
  go_enter Try.func41, Try.ntmps41
  go_wp2
  clear hn
  go_loopw [1, 6] (fun v i wr => ∃ k : Nat, k ≤ nd n ∧ v = .int .u64 ((n / 128 ^ (k + 1) : Nat) : Int) ∧ i = .int .i64 ((9 - k : Nat) : Int) ∧ Aside0 (wr.heap[w.heap.size]? = some (.cells (rowCells k n).toArray 86 (0, 0))) ∧ Aside0 (Below w.heap.size w wr))
    (fun _ i _ => (intOf i).toNat)
  case atStart => 
    refine ⟨0, Nat.zero_le _, by simp, rfl, ⟨?_⟩, ⟨(Below.refl _ _).alloc (Nat.le_refl _) _⟩⟩
    rw [rowCells_zero, heap_alloc_new]; simp
  case round =>
    obtain ⟨k, hk0, rfl, rfl, HR, HB⟩ := hrel
    have hk : k ≤ 9 := Nat.le_trans hk0 (nd_le n hN.out)
    have HK := Aside0.mk hk0
    clear hk0
    have hbd : n / 128 ^ (k + 1) < 18446744073709551616 := Nat.lt_of_le_of_lt (Nat.div_le_self _ _) hN.out
    by_cases h0 : n / 128 ^ (k + 1) = 0
    · have hkn := nd_is n k h0 HK.out
      have HKN := Aside0.mk hkn
      clear hkn
      rw [h0]
      clear hbd h0
      obtain ⟨j, hj⟩ : ∃ j, 9 - k = j := ⟨_, rfl⟩
      rw [hj]
      have HJ := Aside0.mk hj
      have hj8 : j ≤ 9 := by omega
      clear hj
      obtain ⟨m, hm⟩ : ∃ m, s.size + 10 - j = m := ⟨_, rfl⟩
      have hmk := print_make (P := Try.prog) 37 5 .u8 1 Try.underlying37 info_u8 (by decide) m (by omega)
      rw [show (m : Int) = (s.size : Int) + 10 - (j : Int) by omega] at hmk
      generalize hW1 : (wr.alloc (Obj.cells (madeCells #[Value.int .u8 0] m) 5)) = W1 at hmk
      have hcp := Lib.run_copy_row_string (P := Try.prog) W1 37 9 3 5 wr.heap.size 0 m m s (madeCells #[.int .u8 0] m) 5 Try.underlying37 (by kernel_rfl) (by rw [← hW1]; exact heap_alloc_new _ _) (by omega) (by rw [size_madeCells]; simp; omega)
      go_wp2
      have hlt : s.size < m := by omega
      have hne : ¬ m = s.size := by omega
      have hle : s.size ≤ m := by omega
      have hj10' : j ≤ 10 := by omega
      have hj10 : ¬ 10 = j := by omega
      have hB0 : Below w.heap.size w W1 := by rw [← hW1]; exact HB.out.alloc HB.out.size _
      have hg0 : W1.heap[wr.heap.size]? = some (.cells (madeCells #[Value.int .u8 0] m) 5 (0, 0)) := by rw [← hW1]; exact heap_alloc_new _ _
      have hwlt : w.heap.size < wr.heap.size := (Array.getElem?_eq_some_iff.1 HR.out).1
      have hr0 : W1.heap[w.heap.size]? = some (.cells (rowCells k n).toArray 86 (0, 0)) := by rw [← hW1]; exact (Below.heap_alloc _ _ _ hwlt).trans HR.out
      have hg1 := setRow_heap W1 wr.heap.size _ (Lib.byteCells s.data.toList ++ List.drop s.size (madeCells #[Value.int .u8 0] m).toList).toArray _ _ hg0
      have hB1 := below_setRow hB0 HB.out.size (Lib.byteCells s.data.toList ++ List.drop s.size (madeCells #[Value.int .u8 0] m).toList).toArray
      have hr1 := (setRow_other W1 wr.heap.size w.heap.size (Lib.byteCells s.data.toList ++ List.drop s.size (madeCells #[Value.int .u8 0] m).toList).toArray (by omega)).trans hr0
      clear hmk hcp hg0 hB0 hr0
      generalize hW2 : W1.setRow wr.heap.size (Lib.byteCells s.data.toList ++ List.drop s.size (madeCells #[Value.int .u8 0] m).toList).toArray = W2 at *
      clear hW2 hW1
      have HG1 := Aside0.mk hg1
      have HB1 := Aside0.mk hB1
      have HR1 := Aside0.mk hr1
      clear hg1 hB1 hr1
      have hsl : ∀ W : World, (Instr.sliceAt 86 (.pointer (some ⟨w.heap.size, 0, none⟩)) (some (.int .i64 (j : Int))) none none).run Try.prog W = .ok (.slice (some ⟨w.heap.size, j, none⟩) (10 - j) (10 - j)) W := fun W => by
        rw [run_sliceAt_array_l (P := Try.prog) (t := 86) (a := ⟨w.heap.size, 0, none⟩) (w := W) (by kernel_rfl) .i64 (j : Int) (by omega) (by rw [arr10]; omega)]
        obtain ⟨i, hi, hz⟩ := Option.map_eq_some_iff.1 info_u8
        simp only [Prod.mk.injEq] at hz
        simp [slicedAt, arr10, elem10, sizeOf, typeInfo, hi, hz.2.1, hj10, add_plain]
      go_still_tail 6, (by kernel_rfl)
      change wpList _ _ _ _ _ W2.drew
      generalize hW3 : W2.drew = W3
      have HG2 := Aside0.mk (heap_drew_eq hW3 HG1.out)
      have HR2 := Aside0.mk (heap_drew_eq hW3 HR1.out)
      have HB2 := Aside0.mk (show Below w.heap.size w W3 by rw [← hW3]; exact HB1.out.drew)
      clear HG1 HR1 HB1 hW3
      have hdl : ((digs k n).map (Value.int .u8)).length = 10 - j := by
        have := HJ.out
        simp [digs_length]; omega
      have hml : (Lib.byteCells s.data.toList ++ List.drop s.size (madeCells #[Value.int .u8 0] m).toList).length = m := by
        simp [Lib.byteCells_length, data_length, size_madeCells]; omega
      refine wpList_copy_own rfl (.tmp 39) (.tmp 41) 37 37 rfl 5 Try.underlying37 (by kernel_rfl) wr.heap.size s.size (m - s.size) (m - s.size) ⟨w.heap.size, j, none⟩ (10 - j) (10 - j) rfl rfl _ 5 HG2.out ((digs k n).map (Value.int .u8)) ?c1 ?c2 ?c3 ?c4 ?_
      case c1 => rw [hdl]; exact (Nat.min_eq_left (by omega)).symm
      case c2 =>
        intro i v hv
        rw [show (⟨w.heap.size, j, none⟩ : Addr).add i = ⟨w.heap.size, j + i, none⟩ by unfold Addr.add; split <;> simp_all]
        refine blk_of_cells HR2.out _ _ ?_
        have e : j = 9 - k := HJ.out.symm
        rw [rowCells, e, List.getElem?_append_right (by simp)]
        simpa using hv
      case c3 => simp only [List.size_toArray, hml]; omega
      case c4 => intro v hv; obtain ⟨x, _, rfl⟩ := List.mem_map.1 hv; rfl
      have hx : (Lib.byteCells s.data.toList ++ List.drop s.size (madeCells #[Value.int .u8 0] m).toList).toArray.toList.take s.size ++ ((digs k n).map (Value.int .u8) ++ (Lib.byteCells s.data.toList ++ List.drop s.size (madeCells #[Value.int .u8 0] m).toList).toArray.toList.drop (s.size + ((digs k n).map (Value.int .u8)).length)) = nums .u8 (bytesOf s ++ digs k n) := by
        have e1 : (Lib.byteCells s.data.toList).length = s.size := by simp [Lib.byteCells_length, data_length]
        rw [List.toList_toArray, List.take_left' e1, List.drop_of_length_le (by rw [hml, hdl]; omega)]
        simp [nums, bytesOf, Lib.byteCells]
      rw [hx]
      have hg4 := setRow_heap W3 wr.heap.size _ (nums .u8 (bytesOf s ++ digs k n)).toArray _ _ HG2.out
      have hb4 := below_setRow HB2.out HB.out.size (nums .u8 (bytesOf s ++ digs k n)).toArray
      generalize W3.setRow wr.heap.size (nums .u8 (bytesOf s ++ digs k n)).toArray = W4 at hg4 hb4 ⊢
      have HG4 := Aside0.mk hg4
      have HB4 := Aside0.mk hb4
      clear HG2 HR2 HB2 hg4 hb4 hx hml hdl
      have hcv : (convert 37 9 (.slice (some ⟨wr.heap.size, 0, none⟩) m m)).run Try.prog W4 = .ok (.string (strOfNums (bytesOf s ++ digs k n))) W4 := by
        have hl : (bytesOf s ++ digs k n).length = m := by have := HJ.out; simp [bytesOf_length, digs_length]; omega
        refine run_convert_bytes_arg W4 37 5 Try.underlying37 Try.underlying5 wr.heap.size 0 m m _ hl (fun i hi => ?_) 9 Try.underlying9
        rw [Nat.zero_add]
        refine blk_of_cells HG4.out _ _ ?_
        rw [nums, List.getElem?_map, List.getElem?_eq_getElem (by omega)]
        simp [List.getD_eq_getElem?_getD, List.getElem?_eq_getElem (show i < (bytesOf s ++ digs k n).length by omega)]
      go_wp2
      go_ret
      rw [strOfNums_append, strOfNums_bytesOf, HKN.out]
      exact ⟨rfl, HB4.out⟩
    · have hk9 : k < 9 := by
        rcases Nat.lt_or_ge k 9 with h | h
        · exact h
        · exact absurd (div_pow_lt n k hN.out h) h0
      have HK2 : Aside0 (k + 1 ≤ nd n) := ⟨by
        have h1 := HK.out
        rcases Nat.lt_or_ge k (nd n) with h | h
        · omega
        · exact absurd (show n / 128 ^ (k + 1) = 0 by rw [show k = nd n by omega]; exact nd_zero n) h0⟩
      obtain ⟨m, hm⟩ : ∃ m, n / 128 ^ (k + 1) = m := ⟨_, rfl⟩
      rw [hm] at hbd h0 ⊢
      have HM := Aside0.mk hm
      clear hm
      have hpos : 0 < m := by omega
      clear h0
      obtain ⟨j, hj⟩ : ∃ j, 8 - k = j := ⟨_, rfl⟩
      have e9 : ((9 - k : Nat) : Int) = (j : Int) + 1 := by omega
      rw [e9]
      have HJ := Aside0.mk hj
      have hj8 : j ≤ 8 := by omega
      clear hj e9
      obtain ⟨u, hu⟩ : ∃ u, wr.cell? ⟨w.heap.size, j, none⟩ = some u := by
        refine ⟨_, blk_of_cells HR.out j _ (List.getElem?_eq_getElem ?_)⟩
        rw [rowCells_length _ _ hk]; omega
      have hfz : wr.frozen? ⟨w.heap.size, j, none⟩ = false := blk_nofreeze HR.out j
      go_wp2
      go_roundw
      case rel =>
        have ej := HJ.out
        have em := HM.out
        refine ⟨k + 1, HK2.out, ?_, ?_, ⟨?_⟩, ⟨HB.out.setCell (Nat.le_refl _) _⟩⟩
        · rw [← div_pow_succ, em]; simp
        · congr 1; omega
        · rw [blk_store HR.out, ← rowCells_succ k n (by omega), em, ej]
          simp
      case measure => simp [intOf]
end Go.Proofs.Ytnnpfahlfmeakaa
namespace Go.Proofs.Ytnnpfahlfmeakaa.PB
open Go.RowKit Go.Proofs.Ytnnpfahlfmeakaa
/-- A number's bytes behind others. -/
def wire_PutNum.f (a0 : ByteArray) (a1 : Int) : Option ByteArray := if 0 ≤ a1 ∧ a1 < 18446744073709551616 ∧ a0.size ≤ 281474976710000 then some (a0 ++ encNum a1.toNat) else none
theorem wire_PutNum.calls (a0 : ByteArray) (a1 : Int) (r : ByteArray) (w : World) (h : wire_PutNum.f a0 a1 = some r) :
    Calls Try.prog 41 #[.string a0, .int .u64 a1] w fun e w' => e = .returned (.string r) ∧ Below w.heap.size w w' := by
  unfold wire_PutNum.f at h
  split at h
  · rename_i hf
    obtain rfl := Option.some.inj h
    obtain ⟨n, rfl⟩ := Int.eq_ofNat_of_zero_le hf.1
    exact putNum_any a0 n (by omega) hf.2.2 w
  · cases h
end Go.Proofs.Ytnnpfahlfmeakaa.PB

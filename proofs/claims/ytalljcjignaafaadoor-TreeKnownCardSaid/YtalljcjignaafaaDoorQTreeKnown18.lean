import Derived.Test.YtalljcjignaafaaDoorQTreeKnown10
import Derived.Test.YtalljcjignaafaaDoorQTreeKnown12
import Derived.Test.YtalljcjignaafaaDoorQTreeKnown15
namespace Go.Proofs.YtalljcjignaafaaDoor.PB
open Go Go.RowKit Go.Proofs.YtalljcjignaafaaDoor Go.Proofs.YtalljcjignaafaaDoorW.PrintWords Go.Proofs.YtalljcjignaafaaDoorW.PrintLast
set_option linter.unusedVariables false
set_option linter.unusedSimpArgs false
def nmEq (nm : ByteArray) (x : Tree) : Bool := x.f0.toList == nm.toList
/-- Its place; -1: there is none. -/
def idxFrom (nm : ByteArray) : List Tree → Nat → Int
  | [], _ => -1
  | x :: r, k => if nmEq nm x then (k : Int) else idxFrom nm r (k + 1)
theorem ret_i {a b : Int} (h : a = b) : Ending.returned (.int .i64 a) = .returned (.int .i64 b) := by rw [h]
set_option maxRecDepth 100000 in
theorem find1_calls (nm : ByteArray) (b : Nat) (x : Tree) (A : Option Addr) (c : Nat) (w : World) (h : w.cell? ⟨b, 0, none⟩ = some (.string nm)) :
    Calls Tryd.prog 25 #[.agg #[.string x.f0, .int .i64 x.f1, .bool x.f2, .string x.f3, .slice A x.f4.length c], .pointer (some ⟨b, 0, none⟩)] w fun e w' => e = .returned (.bool (nmEq nm x)) ∧ Below w.heap.size w w' := by
  have hu := Tryd.underlying24
  have hb : b ≠ w.heap.size := by
    have h9 : b < w.heap.size := World.block_lt_of_cell? w ⟨b, 0, none⟩ h
    omega
  have h2 := pw_cell_below (below_alloc (Below.refl _ w) (.cells #[.string x.f0, .int .i64 x.f1, .bool x.f2, .string x.f3, .slice A x.f4.length c] 24)) h
  have HB := Aside0.mk (below_alloc (Below.refl _ w) (.cells #[.string x.f0, .int .i64 x.f1, .bool x.f2, .string x.f3, .slice A x.f4.length c] 24))
  go_enter Tryd.func25, Tryd.ntmps25
  go_wp2
  go_ret
  first | exact ⟨rfl, HB.out⟩ | exact ⟨rfl, Below.refl _ _⟩
set_option maxRecDepth 100000 in
set_option maxHeartbeats 1000000 in
theorem idx_any (ks : List Tree) (nm : ByteArray) (b : Nat) (A : Option Addr) (c : Nat) (w : World) (hA : Kd.C k24 w A ks.length ks) (hb : w.cell? ⟨b, 0, none⟩ = some (.string nm)) :
    Calls Tryd.prog 24 #[.slice A ks.length c, .func (.func 25) #[] #[.pointer (some ⟨b, 0, none⟩)]] w fun e w' => e = .returned (.int .i64 (idxFrom nm ks 0)) ∧ Below w.heap.size w w' := by
  have hu := Tryd.underlying24
  have HA := Aside0.mk hA
  have HC := Aside0.mk hb
  have hln : ks.length ≤ 9223372036854775807 := hA.2.1
  have he : ∀ W : World, (callFunc 25 #[.pointer (some ⟨b, 0, none⟩)]).run Tryd.prog W = .ok (.enter 25 #[.pointer (some ⟨b, 0, none⟩)]) W := fun W => by kernel_rfl
  clear hA hb
  go_enter Tryd.func24, Tryd.ntmps24
  go_wp2
  go_loopw [8] (fun i wr => ∃ k : Nat, k ≤ ks.length ∧ i = .int .i64 k ∧ Aside0 (idxFrom nm ks 0 = idxFrom nm (ks.drop k) k) ∧ Aside0 (Below w.heap.size w wr)) (fun i wr => ks.length - (intOf i).toNat)
  case atStart => exact ⟨0, Nat.zero_le _, rfl, ⟨rfl⟩, ⟨Below.refl _ _⟩⟩
  case round =>
    obtain ⟨k, hk, rfl, HZ, HW⟩ := hrel
    by_cases hlt : k < ks.length
    · obtain ⟨ad, A4, c4, rfl, e0, e1, e2, e3, e4, l4, g4⟩ := at_T24 (Kd.C_below HA.out HW.out) (k : Int) (by omega) (by omega)
      have HM := Aside0.mk (show idxFrom nm (ks.drop k) k = if nmEq nm (rd_T24 ks (k : Int)) then (k : Int) else idxFrom nm (ks.drop (k + 1)) (k + 1) from by
        rw [rd_at ks k hlt, List.drop_eq_getElem_cons hlt]; rfl)
      generalize rd_T24 ks (k : Int) = x at *
      have HF1 := Aside0.mk (find1_calls nm b x A4 c4 wr (pw_cell_below HW.out HC.out))
      rw [Int.toNat_natCast] at e0 e1 e2 e3 e4
      clear l4 g4
      cases hm : nmEq nm x with
      | true =>
        rw [hm] at HF1
        have HS := Aside0.mk hm
        clear hm
        go_wp2_with (go_at_call 25; refine HF1.out.mono ?_; rintro e w1 ⟨rfl, hb⟩; have HB1 := Aside0.mk hb; clear hb)
        go_ret
        refine ⟨ret_i ?_, below_then HW.out HW.out.size HB1.out⟩
        rw [HZ.out, HM.out, HS.out]; rfl
      | false =>
        rw [hm] at HF1
        have HS := Aside0.mk hm
        clear hm
        go_wp2_with (go_at_call 25; refine HF1.out.mono ?_; rintro e w1 ⟨rfl, hb⟩; have HB1 := Aside0.mk hb; clear hb)
        go_roundw
        case rel => exact ⟨k + 1, by omega, by go_num, ⟨by rw [HZ.out, HM.out, HS.out]; rfl⟩, ⟨below_then HW.out HW.out.size HB1.out⟩⟩
        case measure => simp [intOf]; omega
    · have hkk : k = ks.length := by omega
      have HZ2 := Aside0.mk (show idxFrom nm ks 0 = -1 from by rw [HZ.out, hkk, List.drop_length]; rfl)
      clear hkk
      go_wp2
      go_ret
      exact ⟨ret_i HZ2.out.symm, HW.out⟩
end Go.Proofs.YtalljcjignaafaaDoor.PB
namespace Go.Proofs.YtalljcjignaafaaDoor.PB
open Go.RowKit Go.Proofs.YtalljcjignaafaaDoor Go.Proofs.YtalljcjignaafaaDoorW.PrintWords Go.Proofs.YtalljcjignaafaaDoorW.PrintLast
set_option linter.unusedVariables false
set_option linter.unusedSimpArgs false
mutual
/-- Whether two nodes are the same. -/
def sameP : Tree → Tree → Bool
  | ⟨n1, k1, e1, d1, l1⟩, b => !(decide (12 < depthP ⟨n1, k1, e1, d1, l1⟩)) && !(decide (12 < depthP b)) && (n1.toList == b.f0.toList) && (k1 == b.f1) && (e1 == b.f2) && (d1.toList == b.f3.toList) && sameKs l1 b.f4
def sameKs : List Tree → List Tree → Bool
  | [], l => l.isEmpty
  | x :: r, l => match l with
    | [] => false
    | y :: s => sameP x y && sameKs r s
end
theorem sameP_eq (a b : Tree) : sameP a b = (!(decide (12 < depthP a)) && !(decide (12 < depthP b)) && (a.f0.toList == b.f0.toList) && (a.f1 == b.f1) && (a.f2 == b.f2) && (a.f3.toList == b.f3.toList) && sameKs a.f4 b.f4) := by
  cases a; simp only [sameP]
theorem sameKs_len : ∀ (a b : List Tree), a.length ≠ b.length → sameKs a b = false
  | [], [], h => absurd rfl h
  | [], _ :: _, _ => rfl
  | _ :: _, [], _ => rfl
  | x :: r, y :: s, h => by
    simp only [sameKs]
    rw [sameKs_len r s (by simpa using h)]
    simp
theorem sameKs_drop (a b : List Tree) (k : Nat) (h1 : k < a.length) (h2 : k < b.length) : sameKs (a.drop k) (b.drop k) = (sameP (rd_T24 a k) (rd_T24 b k) && sameKs (a.drop (k + 1)) (b.drop (k + 1))) := by
  rw [rd_at a k h1, rd_at b k h2, List.drop_eq_getElem_cons h1, List.drop_eq_getElem_cons h2]
  simp only [sameKs, List.drop_succ_cons]
def SameAt (a : Tree) : Prop := ∀ (b : Tree) (A : Option Addr) (c : Nat) (B : Option Addr) (d : Nat) (w : World), Fit b → Kd.C k24 w A a.f4.length a.f4 → a.f4.length ≤ c → Kd.C k24 w B b.f4.length b.f4 → b.f4.length ≤ d →
  Calls Tryd.prog 15 #[.agg #[.string a.f0, .int .i64 a.f1, .bool a.f2, .string a.f3, .slice A a.f4.length c], .agg #[.string b.f0, .int .i64 b.f1, .bool b.f2, .string b.f3, .slice B b.f4.length d]] w fun e w' => e = .returned (.bool (sameP a b)) ∧ Below w.heap.size w w'
theorem ret_boolS {a b : Bool} (h : a = b) : Ending.returned (.bool a) = .returned (.bool b) := by rw [h]
theorem tooDeep_calls (t : Tree) (hf : Fit t) (A : Option Addr) (c : Nat) (w : World) (h : Kd.C k24 w A t.f4.length t.f4) (hl : t.f4.length ≤ c) :
    Calls Tryd.prog 26 #[.agg #[.string t.f0, .int .i64 t.f1, .bool t.f2, .string t.f3, .slice A t.f4.length c]] w fun e w' => e = .returned (.bool (decide (12 < depthP t))) ∧ Below w.heap.size w w' := by
  obtain ⟨k0, hk0⟩ := tooDeep_ev t hf
  exact tree_tooDeep.calls k0 t.f0 t.f1 t.f2 t.f3 A c t.f4 _ w h hl (hk0 k0 (Nat.le_refl _))
set_option maxRecDepth 100000 in
set_option maxHeartbeats 1000000 in
theorem equal_any (ks ls : List Tree) (hk : ∀ x ∈ ks, SameAt x) (hl : ∀ y ∈ ls, Fit y) (A : Option Addr) (c : Nat) (B : Option Addr) (d : Nat) (w : World) (hA : Kd.C k24 w A ks.length ks) (hc : ks.length ≤ c) (hB : Kd.C k24 w B ls.length ls) (hd : ls.length ≤ d) :
    Calls Tryd.prog 32 #[.slice A ks.length c, .slice B ls.length d, .func (.func 15) #[] #[]] w fun e w' => e = .returned (.bool (sameKs ks ls)) ∧ Below w.heap.size w w' := by
  have hu := Tryd.underlying24
  have HI := Aside0.mk hk
  have HF := Aside0.mk hl
  have HA := Aside0.mk hA
  have HB := Aside0.mk hB
  have hln : ks.length ≤ 9223372036854775807 := hA.2.1
  clear hk hl hA hB hc hd
  by_cases hlen : ks.length = ls.length
  · have he : ∀ W : World, (callFunc 15 #[]).run Tryd.prog W = .ok (.enter 15 #[]) W := fun W => by kernel_rfl
    have hne : ((ks.length : Int) != (ls.length : Int)) = false := by simp [hlen]
    have HLEN := Aside0.mk hlen
    clear hlen
    go_enter Tryd.func32, Tryd.ntmps32
    go_wp2
    go_loopw [17] (fun i wr => ∃ k : Nat, k ≤ ks.length ∧ i = .int .i64 k ∧ Aside0 (sameKs ks ls = sameKs (ks.drop k) (ls.drop k)) ∧ Aside0 (Below w.heap.size w wr)) (fun i wr => ks.length - (intOf i).toNat)
    case atStart => exact ⟨0, Nat.zero_le _, rfl, ⟨rfl⟩, ⟨Below.refl _ _⟩⟩
    case round =>
      obtain ⟨k, hk, rfl, HZ, HW⟩ := hrel
      by_cases hlt : k < ks.length
      · have hlt2 : k < ls.length := by have := HLEN.out; omega
        have HM := Aside0.mk (sameKs_drop ks ls k hlt hlt2)
        obtain ⟨ad, A4, c4', rfl, e0, e1, e2, e3, e4, l4, g4⟩ := at_T24 (Kd.C_below HA.out HW.out) (k : Int) (by omega) (by omega)
        obtain ⟨ad2, B4, d4', rfl, f0, f1, f2, f3, f4, l5, g5⟩ := at_T24 (Kd.C_below HB.out HW.out) (k : Int) (by omega) (by omega)
        obtain ⟨x, hx⟩ : ∃ x, rd_T24 ks (k : Int) = x := ⟨_, rfl⟩
        obtain ⟨y, hy⟩ : ∃ y, rd_T24 ls (k : Int) = y := ⟨_, rfl⟩
        have hmx : x ∈ ks := by rw [← hx, rd_at ks k hlt]; exact List.getElem_mem hlt
        have hmy : y ∈ ls := by rw [← hy, rd_at ls k hlt2]; exact List.getElem_mem hlt2
        rw [hx] at e0 e1 e2 e3 e4 l4 g4 HM
        rw [hy] at f0 f1 f2 f3 f4 l5 g5 HM
        have HC := Aside0.mk (fun W (hW : Below wr.heap.size wr W) => HI.out x hmx y A4 c4' B4 d4' W (HF.out y hmy) (Kd.C_below g4 hW) l4 (Kd.C_below g5 hW) l5)
        clear hx hy hmx hmy l4 g4 l5 g5
        rw [Int.toNat_natCast] at e0 e1 e2 e3 e4 f0 f1 f2 f3 f4
        have h0 := pw_cell_below (below_alloc (Below.refl _ wr) (.cells #[.string x.f0, .int .i64 x.f1, .bool x.f2, .string x.f3, .slice A4 x.f4.length c4'] 24)) f0
        have h1 := pw_cell_below (below_alloc (Below.refl _ wr) (.cells #[.string x.f0, .int .i64 x.f1, .bool x.f2, .string x.f3, .slice A4 x.f4.length c4'] 24)) f1
        have h2 := pw_cell_below (below_alloc (Below.refl _ wr) (.cells #[.string x.f0, .int .i64 x.f1, .bool x.f2, .string x.f3, .slice A4 x.f4.length c4'] 24)) f2
        have h3 := pw_cell_below (below_alloc (Below.refl _ wr) (.cells #[.string x.f0, .int .i64 x.f1, .bool x.f2, .string x.f3, .slice A4 x.f4.length c4'] 24)) f3
        have h4 := pw_cell_below (below_alloc (Below.refl _ wr) (.cells #[.string x.f0, .int .i64 x.f1, .bool x.f2, .string x.f3, .slice A4 x.f4.length c4'] 24)) f4
        cases hs : sameP x y with
        | true =>
          rw [hs] at HC
          have HS := Aside0.mk hs
          clear hs
          go_wp2_with (go_at_call 15; refine (HC.out _ (below_alloc (below_alloc (Below.refl _ _) _) _)).mono ?_; rintro e w1 ⟨rfl, hb⟩; have HB1 := Aside0.mk (below_then (below_alloc (below_alloc (Below.refl _ wr) (.cells #[.string x.f0, .int .i64 x.f1, .bool x.f2, .string x.f3, .slice A4 x.f4.length c4'] 24)) (.cells #[.string y.f0, .int .i64 y.f1, .bool y.f2, .string y.f3, .slice B4 y.f4.length d4'] 24)) (below_alloc (below_alloc (Below.refl _ wr) (.cells #[.string x.f0, .int .i64 x.f1, .bool x.f2, .string x.f3, .slice A4 x.f4.length c4'] 24)) (.cells #[.string y.f0, .int .i64 y.f1, .bool y.f2, .string y.f3, .slice B4 y.f4.length d4'] 24)).size hb); clear hb)
          go_roundw
          case rel => exact ⟨k + 1, by omega, by go_num, ⟨by rw [HZ.out, HM.out, HS.out]; simp⟩, ⟨below_then HW.out HW.out.size HB1.out⟩⟩
          case measure => simp [intOf]; omega
        | false =>
          rw [hs] at HC
          have HS := Aside0.mk hs
          clear hs
          go_wp2_with (go_at_call 15; refine (HC.out _ (below_alloc (below_alloc (Below.refl _ _) _) _)).mono ?_; rintro e w1 ⟨rfl, hb⟩; have HB1 := Aside0.mk (below_then (below_alloc (below_alloc (Below.refl _ wr) (.cells #[.string x.f0, .int .i64 x.f1, .bool x.f2, .string x.f3, .slice A4 x.f4.length c4'] 24)) (.cells #[.string y.f0, .int .i64 y.f1, .bool y.f2, .string y.f3, .slice B4 y.f4.length d4'] 24)) (below_alloc (below_alloc (Below.refl _ wr) (.cells #[.string x.f0, .int .i64 x.f1, .bool x.f2, .string x.f3, .slice A4 x.f4.length c4'] 24)) (.cells #[.string y.f0, .int .i64 y.f1, .bool y.f2, .string y.f3, .slice B4 y.f4.length d4'] 24)).size hb); clear hb)
          go_ret
          refine ⟨ret_boolS ?_, below_then HW.out HW.out.size HB1.out⟩
          rw [HZ.out, HM.out, HS.out]
          rfl
      · have hkk : k = ks.length := by omega
        have HZ2 := Aside0.mk (show sameKs ks ls = true by rw [HZ.out, hkk, List.drop_length, HLEN.out, List.drop_length]; rfl)
        clear hkk
        go_wp2
        go_ret
        exact ⟨ret_boolS HZ2.out.symm, HW.out⟩
  · have hne : ((ks.length : Int) != (ls.length : Int)) = true := by simp; omega
    have HN := Aside0.mk (sameKs_len ks ls hlen)
    clear hlen
    go_enter Tryd.func32, Tryd.ntmps32
    go_wp2
    go_ret
    exact ⟨ret_boolS HN.out.symm, Below.refl _ _⟩
set_option maxRecDepth 100000 in
set_option maxHeartbeats 1000000 in
theorem same_at (a : Tree) (hf : Fit a) (ih : ∀ x ∈ a.f4, SameAt x) : SameAt a := by
  intro b A c B d w hfb hA hc hB hd
  have hu := Tryd.underlying24
  have HSE := Aside0.mk (sameP_eq a b)
  have HTA := Aside0.mk (fun W (h : Kd.C k24 W A a.f4.length a.f4) => tooDeep_calls a hf A c W h hc)
  have HTB := Aside0.mk (fun W (h : Kd.C k24 W B b.f4.length b.f4) => tooDeep_calls b hfb B d W h hd)
  have HEQ := Aside0.mk (fun W (h : Kd.C k24 W A a.f4.length a.f4) (h2 : Kd.C k24 W B b.f4.length b.f4) => equal_any a.f4 b.f4 ih hfb.kid A c B d W h hc h2 hd)
  have HA := Aside0.mk hA
  have HB := Aside0.mk hB
  clear hf ih hfb hA hB hc hd
  obtain ⟨n1, k1, e1, d1, l1⟩ := a
  obtain ⟨n2, k2, e2, d2, l2⟩ := b
  dsimp only at *
  generalize decide (12 < depthP ⟨n1, k1, e1, d1, l1⟩) = da at *
  generalize decide (12 < depthP ⟨n2, k2, e2, d2, l2⟩) = db at *
  go_enter Tryd.func15, Tryd.ntmps15
  go_wp2_with fail
  have B1 := Aside0.mk (below_alloc (Below.refl _ w) (.cells #[.string n1, .int .i64 k1, .bool e1, .string d1, .slice A l1.length c] 24))
  have B2 := Aside0.mk (below_alloc B1.out (.cells #[.string n2, .int .i64 k2, .bool e2, .string d2, .slice B l2.length d] 24))
  have N0 := Aside0.mk (show ((w.alloc (.cells #[.string n1, .int .i64 k1, .bool e1, .string d1, .slice A l1.length c] 24)).alloc (.cells #[.string n2, .int .i64 k2, .bool e2, .string d2, .slice B l2.length d] 24)).heap[w.heap.size]? = some (.cells #[.string n1, .int .i64 k1, .bool e1, .string d1, .slice A l1.length c] 24 (0, 0)) from blk_alloc (heap_alloc_new w _) _)
  have M0 := Aside0.mk (show ((w.alloc (.cells #[.string n1, .int .i64 k1, .bool e1, .string d1, .slice A l1.length c] 24)).alloc (.cells #[.string n2, .int .i64 k2, .bool e2, .string d2, .slice B l2.length d] 24)).heap[w.heap.size + 1]? = some (.cells #[.string n2, .int .i64 k2, .bool e2, .string d2, .slice B l2.length d] 24 (0, 0)) from by
    have := heap_alloc_new (w.alloc (.cells #[.string n1, .int .i64 k1, .bool e1, .string d1, .slice A l1.length c] 24)) (.cells #[.string n2, .int .i64 k2, .bool e2, .string d2, .slice B l2.length d] 24)
    rwa [show (w.alloc (.cells #[.string n1, .int .i64 k1, .bool e1, .string d1, .slice A l1.length c] 24)).heap.size = w.heap.size + 1 from Array.size_push _] at this)
  generalize (w.alloc (.cells #[.string n1, .int .i64 k1, .bool e1, .string d1, .slice A l1.length c] 24)).alloc (.cells #[.string n2, .int .i64 k2, .bool e2, .string d2, .slice B l2.length d] 24) = W2 at B2 N0 M0 ⊢
  refine (HTA.out W2 (Kd.C_below HA.out B2.out)).mono ?_
  rintro e w3 ⟨rfl, hb⟩
  have N3 := Aside0.mk (blk_below N0.out hb)
  have M3 := Aside0.mk (blk_below M0.out hb)
  have B3 := Aside0.mk (below_then B2.out B2.out.size hb)
  clear hb N0 M0 B2 B1 HTA
  have z0 := (blk_cell M3.out 0).trans (rfl : _ = some (Value.string n2))
  have z1 := (blk_cell M3.out 1).trans (rfl : _ = some (Value.int .i64 k2))
  have z2 := (blk_cell M3.out 2).trans (rfl : _ = some (Value.bool e2))
  have z3 := (blk_cell M3.out 3).trans (rfl : _ = some (Value.string d2))
  have z4 := (blk_cell M3.out 4).trans (rfl : _ = some (Value.slice B l2.length d))
  have HTB3 := Aside0.mk (HTB.out w3 (Kd.C_below HB.out B3.out))
  clear HTB
  cases da with
  | true =>
    go_wp2_with fail
    go_ret
    refine ⟨ret_boolS ?_, B3.out⟩
    rw [HSE.out]; rfl
  | false =>
  go_wp2_with fail
  refine HTB3.out.mono ?_
  rintro e w4 ⟨rfl, hb⟩
  have N4 := Aside0.mk (blk_below N3.out hb)
  have M4 := Aside0.mk (blk_below M3.out hb)
  have B4 := Aside0.mk (below_then B3.out B3.out.size hb)
  clear hb N3 M3 B3 HTB3 z0 z1 z2 z3 z4
  have z0 := (blk_cell M4.out 0).trans (rfl : _ = some (Value.string n2))
  have z1 := (blk_cell M4.out 1).trans (rfl : _ = some (Value.int .i64 k2))
  have z2 := (blk_cell M4.out 2).trans (rfl : _ = some (Value.bool e2))
  have z3 := (blk_cell M4.out 3).trans (rfl : _ = some (Value.string d2))
  have z4 := (blk_cell M4.out 4).trans (rfl : _ = some (Value.slice B l2.length d))
  have x0 := (blk_cell N4.out 0).trans (rfl : _ = some (Value.string n1))
  have x1 := (blk_cell N4.out 1).trans (rfl : _ = some (Value.int .i64 k1))
  have x2 := (blk_cell N4.out 2).trans (rfl : _ = some (Value.bool e1))
  have x3 := (blk_cell N4.out 3).trans (rfl : _ = some (Value.string d1))
  have x4 := (blk_cell N4.out 4).trans (rfl : _ = some (Value.slice A l1.length c))
  have HEQ4 := Aside0.mk (HEQ.out w4 (Kd.C_below HA.out B4.out) (Kd.C_below HB.out B4.out))
  clear HEQ
  cases db with
  | true =>
    go_wp2_with fail
    go_ret
    refine ⟨ret_boolS ?_, B4.out⟩
    rw [HSE.out]; rfl
  | false =>
  cases g0 : (n1.toList == n2.toList) with
  | false =>
    go_wp2_with fail
    go_ret
    refine ⟨ret_boolS ?_, B4.out⟩
    rw [HSE.out, g0]; rfl
  | true =>
  cases g1 : (k1 == k2) with
  | false =>
    go_wp2_with fail
    go_ret
    refine ⟨ret_boolS ?_, B4.out⟩
    rw [HSE.out, g0, g1]; rfl
  | true =>
  cases g2 : (e1 == e2) with
  | false =>
    go_wp2_with fail
    go_ret
    refine ⟨ret_boolS ?_, B4.out⟩
    rw [HSE.out, g0, g1, g2]; rfl
  | true =>
  cases g3 : (d1.toList == d2.toList) with
  | false =>
    go_wp2_with fail
    go_ret
    refine ⟨ret_boolS ?_, B4.out⟩
    rw [HSE.out, g0, g1, g2, g3]; rfl
  | true =>
  go_wp2_with fail
  refine HEQ4.out.mono ?_
  rintro e w5 ⟨rfl, hb⟩
  have B5 := Aside0.mk (below_then B4.out B4.out.size hb)
  clear hb
  go_wp2_with fail
  go_ret
  refine ⟨ret_boolS ?_, B5.out⟩
  rw [HSE.out, g0, g1, g2, g3]; simp
theorem same_any (a : Tree) (h : Fit a) : SameAt a := by
  induction h with
  | mk t h0 h1 h3 h4 hk ih => exact same_at t (Fit.mk t h0 h1 h3 h4 hk) ih
open Classical in
noncomputable def tree_Same.f (a0 : ByteArray) (a1 : Int) (a2 : Bool) (a3 : ByteArray) (l : List S24) (b0 : ByteArray) (b1 : Int) (b2 : Bool) (b3 : ByteArray) (m : List S24) : Option Bool := if Fit ⟨a0, a1, a2, a3, l⟩ ∧ Fit ⟨b0, b1, b2, b3, m⟩ then some (sameP ⟨a0, a1, a2, a3, l⟩ ⟨b0, b1, b2, b3, m⟩) else none
theorem tree_Same.calls (a0_0 : ByteArray) (a0_1 : Int) (a0_2 : Bool) (a0_3 : ByteArray) (A0_4 : Option Addr) (c0_4 : Nat) (l0_4 : List S24) (a1_0 : ByteArray) (a1_1 : Int) (a1_2 : Bool) (a1_3 : ByteArray) (A1_4 : Option Addr) (c1_4 : Nat) (l1_4 : List S24) (r : Bool) (w : World) (hr0_4 : Kd.C k24 w A0_4 l0_4.length l0_4) (hc0_4 : l0_4.length ≤ c0_4) (hr1_4 : Kd.C k24 w A1_4 l1_4.length l1_4) (hc1_4 : l1_4.length ≤ c1_4) (h : tree_Same.f a0_0 a0_1 a0_2 a0_3 l0_4 a1_0 a1_1 a1_2 a1_3 l1_4 = some r) :
    Calls Tryd.prog 15 #[.agg #[.string a0_0, .int .i64 a0_1, .bool a0_2, .string a0_3, .slice A0_4 l0_4.length c0_4], .agg #[.string a1_0, .int .i64 a1_1, .bool a1_2, .string a1_3, .slice A1_4 l1_4.length c1_4]] w fun e w' => e = .returned (.bool r) ∧ Below w.heap.size w w' := by
  unfold tree_Same.f at h
  split at h
  · rename_i hf
    obtain rfl := Option.some.inj h
    exact same_any ⟨a0_0, a0_1, a0_2, a0_3, l0_4⟩ hf.1 ⟨a1_0, a1_1, a1_2, a1_3, l1_4⟩ A0_4 c0_4 A1_4 c1_4 w hf.2 hr0_4 hc0_4 hr1_4 hc1_4
  · cases h
end Go.Proofs.YtalljcjignaafaaDoor.PB

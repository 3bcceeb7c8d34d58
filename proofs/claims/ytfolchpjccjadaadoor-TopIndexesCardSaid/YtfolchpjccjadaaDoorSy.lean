/- The walk of the skip list's Insert. -/
import Derived.Test.YtfolchpjccjadaaDoorSu
import Derived.Test.YtfolchpjccjadaaDoorSv
namespace Go.Proofs.YtfolchpjccjadaaDoor
open Go.RowKit
set_option linter.unusedVariables false
attribute [local go_sem] bs_list bs_size

def newSop (k : List UInt8) (h : Nat) : Sop := ⟨k, min (max h 1) 8, 0, false, 0, 0, List.replicate 8 0, List.replicate 8 0, 0, 0⟩
theorem newSop_cells (l : Nat) (k : List UInt8) (ref : Int) (h : Nat) (z : Int) (hz : ((min (max h 1) 8 : Nat) : Int) = z) : sopCells l (newSop k h) ref ByteArray.empty false 0 = #[.pointer (some ⟨l, 0, none⟩), .int .i64 0, .string (bs k), wv k 0, wv k 1, wv k 2, wv k 3, wv k 4, wv k 5, wv k 6, wv k 7, wv k 8, wv k 9, wv k 10, wv k 11, wv k 12, wv k 13, wv k 14, wv k 15, wv k 16, .int .i64 ref, .int .i64 z, .int .i64 0, .bool false, .int .i64 0, .int .i64 0, .int .i64 0, .int .i64 0, .int .i64 0, .int .i64 0, .int .i64 0, .int .i64 0, .int .i64 0, .int .i64 0, .int .i64 0, .int .i64 0, .int .i64 0, .int .i64 0, .int .i64 0, .int .i64 0, .int .i64 0, .int .i64 0, .int .i64 0, .int .i64 0, .string ByteArray.empty, .bool false, .int .i64 0] := by
  subst hz
  rfl
set_option maxRecDepth 100000 in
set_option maxHeartbeats 2000000 in
theorem sinsert_at (l : Nat) (k : List UInt8) (ref : Int) (h : Nat) (z : Int) (w : World) (hl : k.length ≤ 140737488355328) (hz : ((min (max h 1) 8 : Nat) : Int) = z) (hc : (h = 0 ∧ z = 1) ∨ (1 ≤ h ∧ h ≤ 8 ∧ z = h) ∨ (8 < h ∧ z = 8)) :
    Calls Tryd.prog 8 #[.pointer (some ⟨l, 0, none⟩), .string (bs k), .int .i64 ref, .int .i64 (h : Int)] w fun e w' => ∃ o, e = .returned (.pointer (some ⟨o, 0, none⟩)) ∧ w.heap.size ≤ o ∧ SopW w' w.heap.size o l (newSop k h) ∧ Below w.heap.size w w' := by
  have HW := Lib.hid (wordOf_any k w hl)
  have HC := Lib.hid (newSop_cells l k ref h z hz)
  clear hz
  rcases hc with ⟨rfl, rfl⟩ | ⟨h1, h2, rfl⟩ | ⟨h1, rfl⟩
  · go_enter Tryd.func8, Tryd.ntmps8
    go_wp2_with fail
    refine HW.out.mono ?_
    rintro e w1 ⟨rfl, hb1⟩
    have HB := Lib.hid hb1
    clear hb1
    unfold wordArr
    go_wp2_with fail
    go_ret
    refine ⟨_, rfl, HB.out.size, ⟨HB.out.size, ref, ByteArray.empty, false, 0, ?_⟩, HB.out.alloc HB.out.size _⟩
    rw [HC.out]
    exact heap_alloc_new w1 _
  · have t1 : ¬ (h : Int) < 1 := by omega
    have t2 : (h : Int) < 9 := by omega
    go_enter Tryd.func8, Tryd.ntmps8
    go_wp2_with fail
    refine HW.out.mono ?_
    rintro e w1 ⟨rfl, hb1⟩
    have HB := Lib.hid hb1
    clear hb1
    unfold wordArr
    go_wp2_with fail
    go_ret
    refine ⟨_, rfl, HB.out.size, ⟨HB.out.size, ref, ByteArray.empty, false, 0, ?_⟩, HB.out.alloc HB.out.size _⟩
    rw [HC.out]
    exact heap_alloc_new w1 _
  · have t1 : ¬ (h : Int) < 1 := by omega
    have t2 : ¬ (h : Int) < 8 := by omega
    go_enter Tryd.func8, Tryd.ntmps8
    go_wp2_with fail
    refine HW.out.mono ?_
    rintro e w1 ⟨rfl, hb1⟩
    have HB := Lib.hid hb1
    clear hb1
    unfold wordArr
    go_wp2_with fail
    go_ret
    refine ⟨_, rfl, HB.out.size, ⟨HB.out.size, ref, ByteArray.empty, false, 0, ?_⟩, HB.out.alloc HB.out.size _⟩
    rw [HC.out]
    exact heap_alloc_new w1 _
theorem sinsert_any (l : Nat) (k : List UInt8) (ref : Int) (h : Nat) (w : World) (hl : k.length ≤ 140737488355328) :
    Calls Tryd.prog 8 #[.pointer (some ⟨l, 0, none⟩), .string (bs k), .int .i64 ref, .int .i64 (h : Int)] w fun e w' => ∃ o, e = .returned (.pointer (some ⟨o, 0, none⟩)) ∧ w.heap.size ≤ o ∧ SopW w' w.heap.size o l (newSop k h) ∧ Below w.heap.size w w' := by
  rcases (show h = 0 ∨ (1 ≤ h ∧ h ≤ 8) ∨ 8 < h by omega) with h1 | h1 | h1
  · exact sinsert_at l k ref h 1 w hl (by omega) (.inl ⟨h1, rfl⟩)
  · exact sinsert_at l k ref h h w hl (by omega) (.inr (.inl ⟨h1.1, h1.2, rfl⟩))
  · exact sinsert_at l k ref h 8 w hl (by omega) (.inr (.inr ⟨h1, rfl⟩))
end Go.Proofs.YtfolchpjccjadaaDoor

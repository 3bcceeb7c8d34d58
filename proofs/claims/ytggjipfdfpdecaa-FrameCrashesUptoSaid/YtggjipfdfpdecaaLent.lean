/- The walks of varvelaw01's lent and still: bytes in memory of their own with spare room behind, and whether they are as they were. -/
import Derived.Test.YtggjipfdfpdecaaWhole
namespace Go.Proofs.Ytggjipfdfpdecaa
open Go.RowKit

/-- The spare room's bytes. -/
def room : List UInt8 := List.replicate 16 0xC5
theorem room_len : room.length = 16 := rfl

set_option maxRecDepth 100000 in
set_option maxHeartbeats 1000000 in
theorem lent_any (v : Value) (l : List UInt8) (w : World) (hr : RdB w v l) (hl : l.length ≤ 140737488355328) :
    Calls Try.prog 27 #[v] w fun e w' => ∃ g, e = .returned (.slice (some ⟨g, 0, none⟩) l.length (l.length + 16)) ∧ Whole w' g (l ++ room) ∧ w.heap.size ≤ g ∧ Below w.heap.size w w' := by
  obtain ⟨A, c, rfl, hc1, hc2, _⟩ := id hr
  have hw16 : IntKind.i64.wrap ((l.length : Int) + 16) = (l.length : Int) + 16 := IntWalk.i64_in _ (by omega)
  have hmk : ∀ W : World, (Instr.makeSlice 25 (.int .i64 ((l.length : Int) + 16)) (.int .i64 ((l.length : Int) + 16))).run Try.prog W = .ok (.slice (some ⟨W.heap.size, 0, none⟩) (l.length + 16) (l.length + 16)) (W.alloc (.cells (madeCells #[.int .u8 0] (l.length + 16)) 5)) := by
    intro W
    obtain ⟨i0, hi, hz0, hz1, hz2⟩ := info_parts info5
    have h := run_make (P := Try.prog) W 25 5 i0 (.int .u8 0) Try.underlying25 hi hz0 .i64 .i64 ((l.length : Int) + 16) ((l.length : Int) + 16) (by omega) (by omega) (by rw [hz2]; omega) (by omega)
    have e : ((l.length : Int) + 16).toNat = l.length + 16 := by omega
    rw [e] at h
    simpa [hz1, Value.cells] using h
  have hrd : RdB (w.alloc (.cells (madeCells #[.int .u8 0] (l.length + 16)) 5)) (.slice A l.length c) l := hr.below ((Below.refl _ _).alloc (Nat.le_refl _) _)
  have hwh := Whole.made w (l.length + 16)
  have hb0 : Below w.heap.size w (w.alloc (.cells (madeCells #[.int .u8 0] (l.length + 16)) 5)) := (Below.refl _ _).alloc (Nat.le_refl _) _
  have HRD := Lib.hid hrd; clear hrd hr
  have HWH := Lib.hid hwh; clear hwh
  have HB0 := Lib.hid hb0; clear hb0
  clear hc1 hc2
  go_enter Try.func27, Try.ntmps27
  go_wp2_with (with_reducible refine copy_whole w.heap.size w rfl (.tmp 9) (.tmp 10) rfl w.heap.size 0 (l.length + 16) (l.length + 16) (List.replicate (l.length + 16) 0) l (.slice A l.length c) rfl rfl HWH.out HRD.out (by omega) (by simp) HB0.out (Nat.le_refl _) ?_; intro w2 hw2 hb2; have HW2 := Lib.hid hw2; clear hw2; have HB2 := Lib.hid hb2; clear hb2)
  go_loopw [4] (fun i wr => ∃ k : Nat, k ≤ 16 ∧ i = .int .i64 ((l.length + k : Nat) : Int) ∧ Whole wr w.heap.size (l ++ (List.replicate k 0xC5 ++ List.replicate (16 - k) 0)) ∧ Below w.heap.size w wr) (fun i _ => l.length + 16 - (intOf i).toNat)
  case atStart =>
    refine ⟨0, by omega, by simp, ?_, HB2.out⟩
    have := HW2.out
    have e : (List.replicate (l.length + 16) (0 : UInt8)).drop (0 + l.length) = List.replicate 16 0 := by
      rw [List.drop_replicate]; congr 1; omega
    rw [e] at this
    simpa using this
  case round =>
    obtain ⟨k, hk, rfl, hwk, hbk⟩ := hrel
    have HB := Lib.hid hbk; clear hbk
    by_cases hlt : k < 16
    · have hcell := hwk.cell (l.length + k) (by simp; omega)
      have hfr := hwk.frozen (l.length + k)
      rw [bv_nat] at hcell
      have hs := hwk.set_ (l.length + k) 0xC5
      have HW := Lib.hid hs; clear hs hwk
      go_wp2
      go_roundw
      case rel =>
        refine ⟨k + 1, by omega, by simp; omega, ?_, HB.out.setCell (Nat.le_refl _) _⟩
        have e : (l ++ (List.replicate k 0xC5 ++ List.replicate (16 - k) 0)).set (l.length + k) (0xC5 : UInt8) = l ++ (List.replicate (k + 1) 0xC5 ++ List.replicate (16 - (k + 1)) 0) := by
          rw [List.set_append_right _ _ (by omega), List.set_append_right _ _ (by simp)]
          have e1 : l.length + k - l.length - (List.replicate k (0xC5 : UInt8)).length = 0 := by simp
          have e2 : List.replicate (16 - k) (0 : UInt8) = 0 :: List.replicate (16 - (k + 1)) 0 := by
            rw [show 16 - k = (16 - (k + 1)) + 1 from by omega, List.replicate_succ]
          rw [e1, e2, List.set_cons_zero, List.replicate_succ']
          simp
        have := HW.out
        rw [e] at this
        exact this
      case measure => simp [intOf]; omega
    · obtain rfl : k = 16 := by omega
      go_wp2
      go_ret
      exact ⟨w.heap.size, rfl, hwk, Nat.le_refl _, HB.out⟩

set_option maxRecDepth 100000 in
set_option maxHeartbeats 1000000 in
theorem still_any (g n c : Nat) (vb : Value) (l : List UInt8) (w : World) (hn : n = l.length) (hc : c = l.length + 16) (hw : Whole w g (l ++ room)) (hr : RdB w vb l) (hl : l.length ≤ 140737488355328) :
    Calls Try.prog 31 #[.slice (some ⟨g, 0, none⟩) n c, vb] w fun e w' => e = .returned (.bool true) ∧ Below w.heap.size w w' := by
  subst hn; subst hc
  obtain ⟨A, c, rfl, hc1, hc2, hcell⟩ := id hr
  have hw16 : IntKind.i64.wrap ((l.length : Int) + 16) = (l.length : Int) + 16 := IntWalk.i64_in _ (by omega)
  have e16 : ((l.length : Int) + 16).toNat = l.length + 16 := by omega
  have HC := Lib.hid hcell; clear hcell hr hc1 hc2
  have HW := Lib.hid hw; clear hw
  go_enter Try.func31, Try.ntmps31
  go_wp2
  go_loopw [6] (fun i wr => ∃ k m : Nat, k ≤ l.length + 16 ∧ i = .int .i64 (k : Int) ∧ wr = w.drewN m) (fun i _ => l.length + 16 - (intOf i).toNat)
  case atStart => exact ⟨0, 0, by omega, rfl, rfl⟩
  case round =>
    obtain ⟨k, m, hk, rfl, rfl⟩ := hrel
    by_cases hlt : k < l.length
    · have hx := HW.out.cell k (by simp; omega)
      rw [List.getElem_append_left hlt, bv_nat] at hx
      obtain ⟨ad, rfl, hcells⟩ := HC.out (by omega)
      have hy := hcells k hlt
      rw [bv_nat] at hy
      clear hcells
      have hx' := fun q => (show (w.drewN q).cell? ⟨g, k, none⟩ = _ from hx)
      have hy' := fun q => (show (w.drewN q).cell? (ad.add k) = _ from hy)
      have t1 : (0 : Int) ≤ (k : Int) := by omega
      have t2 : decide ((k : Int) < (l.length : Int)) = true := by simp; omega
      have t3 : decide ((l.length : Int) ≤ (k : Int)) = false := by simp; omega
      have t4 : decide ((k : Nat) < l.length) = true := by simp; omega
      have t5 : decide (l.length ≤ k) = false := by simp; omega
      go_wp2
      go_quiet (fail)
      go_wp2
      go_roundw
      case rel => exact ⟨k + 1, _, by omega, by go_num, rfl⟩
      case measure => simp [intOf]; omega
    · by_cases hlt2 : k < l.length + 16
      · have hx := HW.out.cell k (by simp [room_len]; omega)
        have hval : (l ++ room)[k]'(by simp [room_len]; omega) = 0xC5 := by
          rw [List.getElem_append_right (by omega)]
          unfold room
          rw [List.getElem_replicate]
        rw [hval] at hx
        have hx2 : w.cell? ⟨g, k, none⟩ = some (.int .u8 197) := hx
        clear hx hval
        have hx' := fun q => (show (w.drewN q).cell? ⟨g, k, none⟩ = _ from hx2)
        have t1 : (0 : Int) ≤ (k : Int) := by omega
        have t2 : decide ((k : Int) < (l.length : Int)) = false := by simp; omega
        have t3 : decide ((l.length : Int) ≤ (k : Int)) = true := by simp; omega
        have t4 : decide ((k : Nat) < l.length) = false := by simp; omega
        have t5 : decide (l.length ≤ k) = true := by simp; omega
        go_wp2
        go_quiet (fail)
        go_wp2
        go_roundw
        case rel => exact ⟨k + 1, _, by omega, by go_num, rfl⟩
        case measure => simp [intOf]; omega
      · go_wp2
        go_ret
        exact ⟨rfl, below_drewN (Below.refl _ _) _⟩
end Go.Proofs.Ytggjipfdfpdecaa

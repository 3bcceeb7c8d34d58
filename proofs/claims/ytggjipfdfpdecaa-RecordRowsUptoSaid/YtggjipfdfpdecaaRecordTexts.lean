/- The walk of the law RecordTexts: the program and the document agree on which texts may be keys and values. -/
import Derived.Test.YtggjipfdfpdecaaRcSh
set_option linter.unusedVariables false
namespace Go.Proofs.Ytggjipfdfpdecaa
open Go.RowKit
attribute [local go_sem] bs_list bs_size

theorem bs_back (a : ByteArray) : a = bs a.data.toList := by cases a; simp [bs]

set_option maxRecDepth 100000 in
set_option maxHeartbeats 2000000 in
theorem recordTexts_list (l : List UInt8) (w : World) (hl : l.length ≤ 140737488355328) :
    Calls Try.prog 16 #[.string (bs l)] w fun e w' => e = .returned (.bool true) ∧ Below w.heap.size w w' := by
  go_enter Try.func16, Try.ntmps16
  go_wp2_with fail
  refine (rshown_any w).mono ?_
  rintro e w1 ⟨rfl, hb1⟩
  have HB := Lib.hid hb1; clear hb1
  go_wp2_with fail
  refine (isKey_any l w1 hl).mono ?_
  rintro e w2 ⟨rfl, rfl⟩
  go_wp2_with fail
  refine (refIsKey_any l w1 hl).mono ?_
  rintro e w2 ⟨rfl, rfl⟩
  have e1 : (isKey l == isKey l) = true := by simp
  go_wp2_with fail
  refine (isVal_any l w1).mono ?_
  rintro e w2 ⟨rfl, rfl⟩
  go_wp2_with fail
  refine (refIsVal_any l w1).mono ?_
  rintro e w2 ⟨rfl, rfl⟩
  have e2 : (isVal l == isVal l) = true := by simp
  go_wp2_with fail
  go_ret
  exact ⟨ret_bool (by simp), HB.out⟩
theorem recordTexts_any (a : ByteArray) (w : World) (h : a.size ≤ 140737488351232) :
    Calls Try.prog 16 #[.string a] w fun e w' => e = .returned (.bool true) ∧ Below w.heap.size w w' := by
  rw [bs_back a]
  refine recordTexts_list _ w ?_
  rw [Array.length_toList]
  have : a.size = a.data.size := rfl
  omega
end Go.Proofs.Ytggjipfdfpdecaa

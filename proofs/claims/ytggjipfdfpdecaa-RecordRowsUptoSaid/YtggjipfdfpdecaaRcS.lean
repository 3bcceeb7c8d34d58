/- The walks of IsKey, IsVal, isTime, isNumber of record and of the document. -/
import Derived.Test.YtggjipfdfpdecaaCuts
import Derived.Test.YtggjipfdfpdecaaRcP
namespace Go.Proofs.Ytggjipfdfpdecaa
open Go.RowKit
attribute [local go_sem] bs_list bs_size

theorem ret_bool {b c : Bool} (h : b = c) : Ending.returned (.bool b) = .returned (.bool c) := by rw [h]
theorem key_one (l : List UInt8) : (!l.isEmpty && decide ((l.length : Int) ≤ 16)) = isKey l := by
  rw [Bool.eq_iff_iff, isKey_iff]
  cases l <;> simp
  omega
theorem key_two (l : List UInt8) : (decide (1 ≤ (l.length : Int)) && decide ((l.length : Int) ≤ 16)) = isKey l := by
  rw [Bool.eq_iff_iff, isKey_iff]
  simp
  omega
theorem val_one (l : List UInt8) : decide ((l.length : Int) ≤ 64) = isVal l := by
  rw [Bool.eq_iff_iff, isVal_iff]
  simp
  omega
theorem tm_one (t : Int) : (decide (0 ≤ t) && decide (t < 1099511627776)) = isTm t := by
  rw [Bool.eq_iff_iff, isTm_iff]
  simp
theorem no_one (t : Int) : (decide (1 ≤ t) && decide (t ≤ 2147483647)) = isNo t := by
  rw [Bool.eq_iff_iff, isNo_iff]
  simp

theorem isKey_any (l : List UInt8) (w : World) (hl : l.length ≤ 140737488355328) :
    Calls Try.prog 49 #[.string (bs l)] w fun e w' => e = .returned (.bool (isKey l)) ∧ w = w' := by
  go_enter Try.func49, Try.ntmps49
  go_wp2
  all_goals
    go_ret
    refine ⟨ret_bool ?_, rfl⟩
    rw [Bool.eq_iff_iff, isKey_iff]
    constructor
    · intro h
      simp at h <;> (cases l) <;> (try simp_all) <;> (try omega)
    · intro h
      simp <;> (cases l) <;> (try simp_all) <;> (try omega)
theorem refIsKey_any (l : List UInt8) (w : World) (hl : l.length ≤ 140737488355328) :
    Calls Try.prog 50 #[.string (bs l)] w fun e w' => e = .returned (.bool (isKey l)) ∧ w = w' := by
  go_enter Try.func50, Try.ntmps50
  go_wp2
  all_goals
    go_ret
    refine ⟨ret_bool ?_, rfl⟩
    rw [Bool.eq_iff_iff, isKey_iff]
    constructor
    · intro h
      simp at h <;> (cases l) <;> (try simp_all) <;> (try omega)
    · intro h
      simp <;> (cases l) <;> (try simp_all) <;> (try omega)
theorem isVal_any (l : List UInt8) (w : World) :
    Calls Try.prog 51 #[.string (bs l)] w fun e w' => e = .returned (.bool (isVal l)) ∧ w = w' := by
  go_enter Try.func51, Try.ntmps51
  go_wp2
  all_goals
    go_ret
    refine ⟨ret_bool ?_, rfl⟩
    rw [Bool.eq_iff_iff, isVal_iff]
    constructor
    · intro h
      simp at h <;> (try simp_all) <;> (try omega)
    · intro h
      simp <;> (try simp_all) <;> (try omega)
theorem refIsVal_any (l : List UInt8) (w : World) :
    Calls Try.prog 52 #[.string (bs l)] w fun e w' => e = .returned (.bool (isVal l)) ∧ w = w' := by
  go_enter Try.func52, Try.ntmps52
  go_wp2
  all_goals
    go_ret
    refine ⟨ret_bool ?_, rfl⟩
    rw [Bool.eq_iff_iff, isVal_iff]
    constructor
    · intro h
      simp at h <;> (try simp_all) <;> (try omega)
    · intro h
      simp <;> (try simp_all) <;> (try omega)
theorem isTime_any (t : Int) (w : World) :
    Calls Try.prog 119 #[.int .i64 t] w fun e w' => e = .returned (.bool (isTm t)) ∧ w = w' := by
  go_enter Try.func119, Try.ntmps119
  go_wp2
  all_goals
    go_ret
    refine ⟨ret_bool ?_, rfl⟩
    rw [Bool.eq_iff_iff, isTm_iff]
    constructor
    · intro h
      simp at h <;> (try simp_all) <;> (try omega)
    · intro h
      simp <;> (try simp_all) <;> (try omega)
theorem timed_any (t : Int) (w : World) :
    Calls Try.prog 124 #[.int .i64 t] w fun e w' => e = .returned (.bool (isTm t)) ∧ w = w' := by
  go_enter Try.func124, Try.ntmps124
  go_wp2
  all_goals
    go_ret
    refine ⟨ret_bool ?_, rfl⟩
    rw [Bool.eq_iff_iff, isTm_iff]
    constructor
    · intro h
      simp at h <;> (try simp_all) <;> (try omega)
    · intro h
      simp <;> (try simp_all) <;> (try omega)
theorem isNumber_any (t : Int) (w : World) :
    Calls Try.prog 126 #[.int .i64 t] w fun e w' => e = .returned (.bool (isNo t)) ∧ w = w' := by
  go_enter Try.func126, Try.ntmps126
  go_wp2
  all_goals
    go_ret
    refine ⟨ret_bool ?_, rfl⟩
    rw [Bool.eq_iff_iff, isNo_iff]
    constructor
    · intro h
      simp at h <;> (try simp_all) <;> (try omega)
    · intro h
      simp <;> (try simp_all) <;> (try omega)
end Go.Proofs.Ytggjipfdfpdecaa

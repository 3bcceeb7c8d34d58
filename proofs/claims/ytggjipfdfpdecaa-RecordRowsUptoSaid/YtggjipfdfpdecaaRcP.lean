/- Plain: what may be a key, a value, a time, a number; commits, rows, manifests as data; no program in sight. -/
import Derived.Test.YtggjipfdfpdecaaPlain
namespace Go.Proofs.Ytggjipfdfpdecaa

def isKey (l : List UInt8) : Bool := decide (1 ≤ l.length ∧ l.length ≤ 16)
def isVal (l : List UInt8) : Bool := decide (l.length ≤ 64)
def isTm (t : Int) : Bool := decide (0 ≤ t ∧ t < 1099511627776)
def isNo (n : Int) : Bool := decide (1 ≤ n ∧ n ≤ 2147483647)
theorem isKey_iff (l : List UInt8) : isKey l = true ↔ 1 ≤ l.length ∧ l.length ≤ 16 := by unfold isKey; exact decide_eq_true_iff
theorem isVal_iff (l : List UInt8) : isVal l = true ↔ l.length ≤ 64 := by unfold isVal; exact decide_eq_true_iff
theorem isTm_iff (t : Int) : isTm t = true ↔ 0 ≤ t ∧ t < 1099511627776 := by unfold isTm; exact decide_eq_true_iff
theorem isNo_iff (t : Int) : isNo t = true ↔ 1 ≤ t ∧ t ≤ 2147483647 := by unfold isNo; exact decide_eq_true_iff
theorem bool_no {b : Bool} (h : ¬ b = true) : b = false := by cases b <;> simp_all
end Go.Proofs.Ytggjipfdfpdecaa

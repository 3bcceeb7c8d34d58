/- Plain: a frame that was laid stands there; the document's example. -/
import Derived.Test.YtggjipfdfpdecaaFrL
namespace Go.Proofs.Ytggjipfdfpdecaa

theorem fr_self (seq : Nat) (body R : List UInt8) (hs : seq < two64) (hb : body.length ≤ 65536) : Fr (frameOf seq body ++ R) seq body := by
  have hl := frameOf_len seq body
  refine ⟨hs, hb, ?_, by rw [List.length_append]; omega⟩
  rw [List.take_append_of_le_length (by omega), List.take_of_length_le (by omega)]
theorem frAt_laid (P : List UInt8) (seq : Nat) (body R : List UInt8) (hs : seq < two64) (hb : body.length ≤ 65536) (hP : P.length % 32 = 0) : frAt (P ++ (frameOf seq body ++ R)) (P.length : Int) = some (seq, body) := by
  have hl := frameOf_len seq body
  have := bl_pos body.length
  unfold frAt
  rw [if_pos ⟨by omega, by omega, by simp only [List.length_append]; omega⟩, Int.toNat_natCast, List.drop_left]
  exact tkF_some.2 (fr_self seq body R hs hb)

def exF : List UInt8 := frameOf 5 [97, 98]
theorem exF_len : exF.length = 32 := frameOf_len 5 [97, 98]
theorem exF_0 : exF[0]? = some 0xA1 := by decide +kernel
theorem exF_1 : exF[1]? = some 5 := by decide +kernel
theorem exF_17 : exF[17]? = some 97 := by decide +kernel
theorem exF_at : frAt exF (0 : Nat) = some (5, [97, 98]) := by
  have := frAt_laid [] 5 [97, 98] [] (by decide) (by decide) rfl
  rw [List.append_nil, List.nil_append] at this
  exact this
theorem exF_stop (f : Nat) (h : f ≠ 5) : Stop exF 0 f := by
  intro body hh
  rw [exF_at] at hh
  injection hh with hh
  injection hh with h1 _
  exact h h1.symm
theorem exF_late : Late exF 0 4 := ⟨0, 5, [97, 98], by rw [exF_len]; decide, exF_at, by omega⟩
theorem exF_notLate : ¬ Late exF 0 6 := by
  rintro ⟨k, s, body, h1, h2, h3⟩
  rw [exF_len] at h1
  obtain rfl : k = 0 := by omega
  rw [exF_at] at h2
  injection h2 with h2
  injection h2 with h2 _
  omega
end Go.Proofs.Ytggjipfdfpdecaa

/- Words of the laws FrameCrashes and FramePokes. -/
import Derived.Test.YtggjipfdfpdecaaFBeg
import Derived.Test.YtggjipfdfpdecaaFSh
import Derived.Test.YtggjipfdfpdecaaFrCl
namespace Go.Proofs.Ytggjipfdfpdecaa
open Go.RowKit

/-- What the sum of the first twelve bodies' lengths tells. -/
def SumOf (ls : List (List UInt8)) (s : Nat) : Prop := ∀ l ∈ ls.take 12, min l.length 100000 ≤ s
theorem xor_ne (x b : UInt8) (h : b ≠ 0) : x ^^^ b ≠ x := by
  intro e
  apply h
  have := congrArg (fun y => x ^^^ y) e
  simpa [← UInt8.xor_assoc] using this
theorem row_shape {w : World} {base E : Nat} {v : Value} {us : List Value} (h : w.ownsRow base E 1 v us.length us) : ∃ A c, v = .slice A us.length c := by
  rcases h.2 with ⟨rfl, h0⟩ | ⟨g, cap, cur, rfl, _⟩
  · exact ⟨none, 0, by rw [h0]⟩
  · exact ⟨_, cap, rfl⟩
theorem take_self (ls : List (List UInt8)) (n : Nat) : ls.take n = ls.take (ls.take n).length := by
  rw [List.length_take]
  by_cases h : n ≤ ls.length
  · rw [Nat.min_eq_left h]
  · rw [Nat.min_eq_right (by omega), List.take_of_length_le (by omega), List.take_of_length_le (by omega)]
theorem laid_none {f : Nat} {T : List (List UInt8)} (h : (laid f T).length = 0) : T.length = 0 := by
  rcases T with _ | ⟨x, r⟩
  · rfl
  · simp only [laid, List.length_append, frameOf_len] at h
    have := bl_pos x.length
    omega
theorem laid_mono (f : Nat) (T : List (List UInt8)) : ∀ (k j : Nat), k ≤ j → (laid f (T.take k)).length ≤ (laid f (T.take j)).length := by
  intro k j h
  have : T.take j = T.take k ++ (T.take j).drop k := by
    conv => lhs; rw [← List.take_append_drop k (T.take j)]
    rw [List.take_take, Nat.min_eq_left h]
  rw [this, laid_append, List.length_append]
  omega
theorem laid_step (f : Nat) (T : List (List UInt8)) (k : Nat) (h : k < T.length) : (laid f (T.take k)).length + 32 ≤ (laid f (T.take (k + 1))).length := by
  rw [laid_take f T k h, List.length_append, frameOf_len]
  have := bl_pos T[k].length
  omega
/-- The ends' cells. -/
theorem ends_cell {w : World} {base : Nat} {f : Nat} {T : List (List UInt8)} {v : Value} (h : w.ownsRow base 3 1 v ((endsOf f T).map intv).length ((endsOf f T).map intv)) (hp : 0 < T.length) :
    ∃ g cap, v = .slice (some ⟨g, 0, none⟩) T.length cap ∧ g < w.heap.size ∧ T.length ≤ cap ∧ cap ≤ maxLen ∧ base ≤ g ∧ ∀ j, j < T.length → w.cell? ⟨g, j, none⟩ = some (.int .i64 (((laid f (T.take (j + 1))).length : Nat) : Int)) := by
  have hel : ((endsOf f T).map intv).length = T.length := by rw [List.length_map, endsOf_len]
  obtain ⟨g, cap, hv, hb, hg, hc, hm, hcell⟩ := row_one h (by rw [hel]; exact hp)
  rw [hel] at hv hc
  refine ⟨g, cap, hv, hg, hc, hm, hb, fun j hj => hcell j _ ?_⟩
  rw [List.getElem?_map, endsOf_get f T j hj]
  rfl
end Go.Proofs.Ytggjipfdfpdecaa

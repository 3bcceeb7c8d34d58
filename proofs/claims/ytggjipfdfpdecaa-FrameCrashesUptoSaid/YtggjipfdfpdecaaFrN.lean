/- Plain: frames laid one behind the other. -/
import Derived.Test.YtggjipfdfpdecaaFrM
namespace Go.Proofs.Ytggjipfdfpdecaa

def laid : Nat → List (List UInt8) → List UInt8
  | _, [] => []
  | f, body :: r => frameOf (f % two64) body ++ laid (f + 1) r
theorem laid_mod : ∀ (ls : List (List UInt8)) (f : Nat), (laid f ls).length % 32 = 0
  | [], _ => rfl
  | body :: r, f => by
    have := laid_mod r (f + 1)
    simp only [laid, List.length_append, frameOf_len]
    omega
theorem laid_snoc : ∀ (ls : List (List UInt8)) (f : Nat) (body : List UInt8), laid f (ls ++ [body]) = laid f ls ++ frameOf ((f + ls.length) % two64) body
  | [], f, body => by simp [laid]
  | x :: r, f, body => by
    have e : f + 1 + r.length = f + (r.length + 1) := by omega
    simp only [List.cons_append, laid, laid_snoc r (f + 1) body, List.append_assoc, List.length_cons, e]
theorem laid_append : ∀ (ls rs : List (List UInt8)) (f : Nat), laid f (ls ++ rs) = laid f ls ++ laid (f + ls.length) rs
  | [], rs, f => by simp [laid]
  | x :: r, rs, f => by
    have e : f + 1 + r.length = f + (r.length + 1) := by omega
    simp only [List.cons_append, laid, laid_append r rs (f + 1), List.append_assoc, List.length_cons, e]
theorem laid_take (f : Nat) (ls : List (List UInt8)) (k : Nat) (hk : k < ls.length) : laid f (ls.take (k + 1)) = laid f (ls.take k) ++ frameOf ((f + k) % two64) ls[k] := by
  rw [List.take_succ_eq_append_getElem hk, laid_snoc, List.length_take, Nat.min_eq_left (by omega)]
theorem laid_le : ∀ (ls : List (List UInt8)) (f : Nat), (∀ l ∈ ls, l.length ≤ 65536) → (laid f ls).length ≤ 70000 * ls.length
  | [], _, _ => by simp [laid]
  | x :: r, f, h => by
    have h1 := laid_le r (f + 1) (fun l hl => h l (List.mem_cons_of_mem _ hl))
    have h2 := h x (by simp)
    simp only [laid, List.length_append, frameOf_len, List.length_cons]
    unfold bl
    omega
theorem pre_laid : ∀ (ls : List (List UInt8)) (f : Nat) (P R : List UInt8), P.length % 32 = 0 → (∀ l ∈ ls, l.length ≤ 65536) → Pre (P ++ (laid f ls ++ R)) P.length (f % two64) ls (P.length + (laid f ls).length) ((f + ls.length) % two64)
  | [], f, P, R, _, _ => ⟨by simp [laid], by simp⟩
  | x :: r, f, P, R, hP, h => by
    have hx := h x (by simp)
    have e1 : P ++ (laid f (x :: r) ++ R) = P ++ (frameOf (f % two64) x ++ (laid (f + 1) r ++ R)) := by simp [laid]
    have e2 : P ++ (laid f (x :: r) ++ R) = (P ++ frameOf (f % two64) x) ++ (laid (f + 1) r ++ R) := by simp [laid]
    have hl : (P ++ frameOf (f % two64) x).length = P.length + 32 * bl x.length := by rw [List.length_append, frameOf_len]
    refine ⟨?_, ?_⟩
    · rw [e1]
      exact frAt_laid P _ x _ (Nat.mod_lt _ (by decide)) hx hP
    · have := pre_laid r (f + 1) (P ++ frameOf (f % two64) x) R (by rw [hl]; omega) (fun l hl => h l (List.mem_cons_of_mem _ hl))
      rw [← e2, hl] at this
      have e3 : P.length + 32 * bl x.length + (laid (f + 1) r).length = P.length + (laid f (x :: r)).length := by simp [laid, frameOf_len]; omega
      have e4 : f + 1 + r.length = f + (x :: r).length := by simp; omega
      have e5 : (f + 1) % two64 = (f % two64 + 1) % two64 := by unfold two64; omega
      rw [e3, e4, e5] at this
      exact this

/-- Where each frame ends. -/
def endsOf (f : Nat) (ls : List (List UInt8)) : List Nat := (List.range ls.length).map fun j => (laid f (ls.take (j + 1))).length
theorem endsOf_len (f : Nat) (ls : List (List UInt8)) : (endsOf f ls).length = ls.length := by simp [endsOf]
theorem endsOf_get (f : Nat) (ls : List (List UInt8)) (j : Nat) (h : j < ls.length) : (endsOf f ls)[j]? = some (laid f (ls.take (j + 1))).length := by simp [endsOf, h]
theorem endsOf_snoc (f : Nat) (ls : List (List UInt8)) (body : List UInt8) : endsOf f (ls ++ [body]) = endsOf f ls ++ [(laid f (ls ++ [body])).length] := by
  apply List.ext_getElem?
  intro j
  by_cases h : j < ls.length
  · rw [List.getElem?_append_left (by rw [endsOf_len]; exact h), endsOf_get _ _ _ h, endsOf_get _ _ _ (by simp; omega), List.take_append_of_le_length (by omega)]
  · by_cases e : j = ls.length
    · subst e
      rw [List.getElem?_append_right (by rw [endsOf_len]; exact Nat.le_refl _), endsOf_len, endsOf_get _ _ _ (by simp), List.take_of_length_le (by simp)]
      simp
    · rw [List.getElem?_eq_none (by rw [endsOf_len]; simp; omega), List.getElem?_eq_none (by simp [endsOf_len]; omega)]

/-- Behind all frames nothing stands. -/
theorem stop_end (b : List UInt8) (f : Nat) : Stop b b.length f := by
  intro body h
  have := (frAt_some h).2.2.1
  have h2 := bl_pos body.length
  simp only at this
  omega
theorem late_end (b : List UInt8) (f : Nat) : ¬ Late b b.length f := by
  rintro ⟨k, _, _, h, _⟩
  omega
end Go.Proofs.Ytggjipfdfpdecaa

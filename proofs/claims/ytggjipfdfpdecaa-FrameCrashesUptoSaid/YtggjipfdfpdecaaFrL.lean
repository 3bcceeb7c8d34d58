/- Plain: frames that stand one behind the other. -/
import Derived.Test.YtggjipfdfpdecaaFrQ
namespace Go.Proofs.Ytggjipfdfpdecaa

def two64 : Nat := 18446744073709551616
/-- From a place on these bodies stand as frames, numbered from f on; there at' and f' are reached. -/
def Pre (b : List UInt8) : Nat → Nat → List (List UInt8) → Nat → Nat → Prop
  | at_, f, [], at', f' => at_ = at' ∧ f = f'
  | at_, f, body :: r, at', f' => frAt b at_ = some (f, body) ∧ Pre b (at_ + 32 * bl body.length) ((f + 1) % two64) r at' f'
/-- Here no frame of this number stands. -/
def Stop (b : List UInt8) (at_ f : Nat) : Prop := ∀ body, frAt b at_ ≠ some (f, body)
/-- From here on a frame of this number or of a later one stands somewhere. -/
def Late (b : List UInt8) (at_ f : Nat) : Prop := ∃ k s body, at_ + 32 * k < b.length ∧ frAt b ((at_ + 32 * k : Nat) : Int) = some (s, body) ∧ f ≤ s

theorem Pre.snoc {b : List UInt8} : ∀ {ls : List (List UInt8)} {at_ f at' f' : Nat} {body : List UInt8}, Pre b at_ f ls at' f' → frAt b at' = some (f', body) → Pre b at_ f (ls ++ [body]) (at' + 32 * bl body.length) ((f' + 1) % two64)
  | [], _, _, _, _, _, h, h2 => by
    obtain ⟨rfl, rfl⟩ := h
    exact ⟨h2, rfl, rfl⟩
  | _ :: _, _, _, _, _, _, h, h2 => ⟨h.1, Pre.snoc h.2 h2⟩
theorem Pre.one {b : List UInt8} : ∀ {ls ls' : List (List UInt8)} {at_ f a1 f1 a2 f2 : Nat}, Pre b at_ f ls a1 f1 → Stop b a1 f1 → Pre b at_ f ls' a2 f2 → Stop b a2 f2 → ls = ls' ∧ a1 = a2 ∧ f1 = f2
  | [], [], _, _, _, _, _, _, h, _, h2, _ => by
    obtain ⟨rfl, rfl⟩ := h
    obtain ⟨rfl, rfl⟩ := h2
    exact ⟨rfl, rfl, rfl⟩
  | [], y :: r, _, _, _, _, _, _, h, s, h2, _ => by
    obtain ⟨rfl, rfl⟩ := h
    exact absurd h2.1 (s y)
  | x :: l, [], _, _, _, _, _, _, h, _, h2, s => by
    obtain ⟨rfl, rfl⟩ := h2
    exact absurd h.1 (s x)
  | x :: l, y :: r, _, _, _, _, _, _, h, s, h2, s2 => by
    have e := h.1.symm.trans h2.1
    injection e with e
    injection e with _ e
    subst e
    obtain ⟨h3, h4, h5⟩ := Pre.one h.2 s h2.2 s2
    exact ⟨by rw [h3], h4, h5⟩
theorem Pre.len {b : List UInt8} : ∀ {ls : List (List UInt8)} {at_ f at' f' : Nat}, Pre b at_ f ls at' f' → at_ ≤ b.length → at_ + 32 * ls.length ≤ at' ∧ at' ≤ b.length
  | [], _, _, _, _, h, hl => by
    obtain ⟨rfl, rfl⟩ := h
    exact ⟨by simp, hl⟩
  | x :: l, at_, f, at', f', h, hl => by
    obtain ⟨_, _, h3, _⟩ := frAt_some h.1
    have h3' : (at_ : Int) + 32 * ((bl x.length : Nat) : Int) ≤ b.length := h3
    obtain ⟨h1, h2⟩ := Pre.len h.2 (by omega)
    have := bl_pos x.length
    refine ⟨?_, h2⟩
    simp only [List.length_cons]
    omega
theorem Pre.f_lt {b : List UInt8} : ∀ {ls : List (List UInt8)} {at_ f at' f' : Nat}, Pre b at_ f ls at' f' → f < two64 → f' < two64
  | [], _, _, _, _, h, hl => by
    obtain ⟨_, rfl⟩ := h
    exact hl
  | _ :: _, _, _, _, _, h, _ => Pre.f_lt h.2 (Nat.mod_lt _ (by decide))
theorem Pre.body {b : List UInt8} : ∀ {ls : List (List UInt8)} {at_ f at' f' : Nat}, Pre b at_ f ls at' f' → ∀ l ∈ ls, l.length ≤ 65536
  | [], _, _, _, _, _, l, hl => by cases hl
  | x :: r, at_, f, at', f', h, l, hl => by
    rcases List.mem_cons.1 hl with rfl | hl
    · have := (frAt_some h.1).2.2.2.2.1
      exact this
    · exact Pre.body h.2 l hl
end Go.Proofs.Ytggjipfdfpdecaa

/- The law's words: what comes in. -/
import Derived.Test.YtfolchpjccjadaaDoorNa
import Derived.Test.YtfolchpjccjadaaDoorKb
import Derived.Test.YtfolchpjccjadaaDoorTi
import Derived.Test.YtfolchpjccjadaaDoorLd
namespace Go.Proofs.YtfolchpjccjadaaDoor
open Go.RowKit
set_option linter.unusedVariables false
attribute [local go_sem] bs_list bs_size

/-- A slice of texts that came in. -/
def KeysR (w : World) (B : Nat) (A : Option Addr) (ks : List (List UInt8)) : Prop := ∀ (j : Nat) (k : List UInt8), ks[j]? = some k → ∃ ad, A = some ad ∧ (ad.add j).block < B ∧ w.cell? (ad.add j) = some (.string (bs k))
/-- A slice of numbers that came in. -/
def PicksR (w : World) (B : Nat) (A : Option Addr) (n : Nat) : Prop := ∀ j : Nat, j < n → ∃ ad z, A = some ad ∧ (ad.add j).block < B ∧ w.cell? (ad.add j) = some (.int .i64 z) ∧ -9223372036854775808 ≤ z ∧ z ≤ 9223372036854775807
theorem KeysR.below {w w' : World} {B : Nat} {A : Option Addr} {ks : List (List UInt8)} (h : KeysR w B A ks) (hb : Below B w w') : KeysR w' B A ks := fun j k hk => by
  obtain ⟨ad, h1, h2, h3⟩ := h j k hk
  exact ⟨ad, h1, h2, (World.cell?_of_block (hb.block _ h2)).trans h3⟩
theorem PicksR.below {w w' : World} {B : Nat} {A : Option Addr} {n : Nat} (h : PicksR w B A n) (hb : Below B w w') : PicksR w' B A n := fun j hj => by
  obtain ⟨ad, z, h1, h2, h3, h4⟩ := h j hj
  exact ⟨ad, z, h1, h2, (World.cell?_of_block (hb.block _ h2)).trans h3, h4⟩
theorem KeysR.take {w : World} {B n : Nat} {A : Option Addr} {ks : List (List UInt8)} (h : KeysR w B A ks) : KeysR w B A (ks.take n) := fun j k hk => by
  rw [List.getElem?_take] at hk
  split at hk
  · exact h j k hk
  · cases hk

end Go.Proofs.YtfolchpjccjadaaDoor

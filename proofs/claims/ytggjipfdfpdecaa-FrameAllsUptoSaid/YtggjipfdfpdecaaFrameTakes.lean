/- The walk of the law FrameTakes: which frame stands at a place. Condition: what comes in has at most 1048576 values. -/
import Derived.Test.YtggjipfdfpdecaaFramePuts
namespace Go.Proofs.Ytggjipfdfpdecaa
open Go.RowKit
attribute [local go_sem] bs_list

set_option maxRecDepth 100000 in
set_option maxHeartbeats 4000000 in
theorem frameTakes_nat (vb : Value) (b : List UInt8) (at_ : Int) (w : World) (hb : RdB w vb b) (hl : b.length ≤ 1048576) :
    Calls Try.prog 11 #[vb, .int .i64 at_] w fun e w' => e = .returned (.bool true) ∧ Below w.heap.size w w' := by
  obtain ⟨A, c, rfl, _, _, _⟩ := id hb
  have HB := Lib.hid hb; clear hb
  go_enter Try.func11, Try.ntmps11
  go_wp2_with fail
  refine (fshown_any w).mono ?_
  rintro e w1 ⟨rfl, hb1⟩
  have HB1 := Lib.hid hb1; clear hb1
  go_wp2_with fail
  refine (flent_any _ b _ (HB.out.below HB1.out) (by omega)).mono ?_
  rintro e w2 ⟨vx, rfl, hx2, hb2⟩
  have HX := Lib.hid hx2; clear hx2
  have HB2 := Lib.hid (HB1.out.trans (hb2.mono HB1.out.size)); clear hb2
  go_wp2_with fail
  have ht := ftake_any _ b at_ _ HX.out.rd (by omega)
  have ht2 := fun w' (h : Below w2.heap.size w2 w') => rtake_any _ b at_ w' (HB.out.below (HB2.out.trans (h.mono HB2.out.size))) (by omega)
  have HT2 := Lib.hid ht2; clear ht2
  cases hk : frAt b at_ with
  | none =>
    rw [hk] at ht
    refine ht.mono ?_
    rintro e w3 ⟨rfl, hb3⟩
    have HB3 := Lib.hid hb3; clear hb3 ht
    simp only [noF]
    go_wp2_with fail
    have ht3 := HT2.out w3 HB3.out
    rw [hk] at ht3
    refine ht3.mono ?_
    rintro e w4 ⟨rfl, hb4⟩
    have HB4 := Lib.hid (HB3.out.trans (hb4.mono HB3.out.size)); clear hb4 ht3 hk
    simp only [noF]
    have k5 := conv_rd (RdB.nil w4)
    go_wp2_with fail
    clear k5
    refine (spoil_any 0 _ [] _ (Own.nil _ _) (by simp)).mono ?_
    rintro e w6 ⟨rfl, hg6⟩
    have HB6 := Lib.hid (HB4.out.trans ((grown_below (Own.nil w4 w4.heap.size) hg6 (Nat.le_refl _)).mono HB4.out.size)); clear hg6
    go_wp2_with fail
    have hin6 := HB2.out.trans (HB6.out.mono HB2.out.size)
    refine (fkept_any _ _ _ b _ (HX.out.below HB6.out) (HB.out.below hin6) (by omega)).mono ?_
    rintro e w7 ⟨rfl, hb7⟩
    have HB7 := Lib.hid (HB6.out.trans (hb7.mono HB6.out.size)); clear hb7 hin6
    go_wp2_with fail
    go_ret
    exact ⟨rfl, HB2.out.trans (HB7.out.mono HB2.out.size)⟩
  | some p =>
    obtain ⟨s, body⟩ := p
    obtain ⟨_, _, _, hs64, hbl, _⟩ := frAt_some hk
    simp only at hs64 hbl
    rw [hk] at ht
    refine ht.mono ?_
    rintro e w3 ⟨v3, rfl, ho3, hb3⟩
    have HB3 := Lib.hid hb3; clear hb3 ht
    have HO3 := Lib.hid ho3; clear ho3
    obtain ⟨nx, hnx⟩ : ∃ nx : Int, nx = at_ + ((32 * bl body.length : Nat) : Int) := ⟨_, rfl⟩
    have HNX := Lib.hid hnx; clear hnx
    simp only
    rw [← HNX.out]
    go_wp2_with fail
    have ht3 := HT2.out w3 HB3.out
    rw [hk] at ht3
    refine ht3.mono ?_
    rintro e w4 ⟨v4, rfl, ho4, hb4⟩
    simp only
    rw [← HNX.out]
    have k4 := conv_rd ho4.rd
    have HO4 := Lib.hid (HO3.out.below hb4); clear HO3
    have k3 := conv_rd HO4.out.rd
    have HB4 := Lib.hid (HB3.out.trans (hb4.mono HB3.out.size)); clear hb4 ht3 hk ho4
    go_wp2_with fail
    clear k3 k4
    refine (spoil_any _ _ body _ HO4.out (by omega)).mono ?_
    rintro e w6 ⟨rfl, hg6⟩
    have HB6 := Lib.hid (HB4.out.trans (grown_below HO4.out hg6 HB4.out.size)); clear hg6
    go_wp2_with fail
    have hin6 := HB2.out.trans (HB6.out.mono HB2.out.size)
    refine (fkept_any _ _ _ b _ (HX.out.below HB6.out) (HB.out.below hin6) (by omega)).mono ?_
    rintro e w7 ⟨rfl, hb7⟩
    have HB7 := Lib.hid (HB6.out.trans (hb7.mono HB6.out.size)); clear hb7 hin6
    go_wp2_with fail
    go_ret
    exact ⟨rfl, HB2.out.trans (HB7.out.mono HB2.out.size)⟩

theorem frameTakes_any (vb : Value) (b : List UInt8) (at_ : Int) (w : World) (hb : RdB w vb b) (_ha : (Lit.int .i64 at_).wf = true) (hl : b.length ≤ 1048576) :
    Calls Try.prog 11 #[vb, .int .i64 at_] w fun e w' => e = .returned (.bool true) ∧ Below w.heap.size w w' :=
  frameTakes_nat vb b at_ w hb hl
end Go.Proofs.Ytggjipfdfpdecaa

/- The walk of the law FramePuts: how bytes are framed. Condition: what comes in has together at most 1048576 values. -/
import Derived.Test.YtggjipfdfpdecaaFSh
namespace Go.Proofs.Ytggjipfdfpdecaa
open Go.RowKit
attribute [local go_sem] bs_list

theorem grown_below {w w' : World} {base : Nat} {v : Value} {l : List UInt8} (ho : Own w base v l) (hg : w.grownBy w' v.ownBlock) (hb : base ≤ w.heap.size) : Below base w w' :=
  (Below.refl base w).grown hg hb fun k hk => (World.ownsRow.lt ho k hk).1

set_option maxRecDepth 100000 in
set_option maxHeartbeats 4000000 in
theorem framePuts_nat (vb : Value) (b : List UInt8) (n : Nat) (vy : Value) (body : List UInt8) (w : World) (hb : RdB w vb b) (hn : n < 18446744073709551616) (hy : RdB w vy body) (hl : b.length + body.length ≤ 1048576) :
    Calls Try.prog 10 #[vb, .int .u64 n, vy] w fun e w' => e = .returned (.bool true) ∧ Below w.heap.size w w' := by
  obtain ⟨A, c, rfl, _, _, _⟩ := id hb
  obtain ⟨A', c', rfl, _, _, _⟩ := id hy
  have HB := Lib.hid hb; clear hb
  have HY := Lib.hid hy; clear hy
  have HN := Lib.hid hn; clear hn
  have hlb : b.length ≤ 1048576 := by omega
  have hly : body.length ≤ 1048576 := by omega
  clear hl
  go_enter Try.func10, Try.ntmps10
  go_wp2_with fail
  refine (fshown_any w).mono ?_
  rintro e w1 ⟨rfl, hb1⟩
  have HB1 := Lib.hid hb1; clear hb1
  go_wp2_with fail
  refine (flent_any _ b _ (HB.out.below HB1.out) (by omega)).mono ?_
  rintro e w2 ⟨vx, rfl, hx2, hb2⟩
  have HX := Lib.hid hx2; clear hx2
  have HB2 := Lib.hid (HB1.out.trans (hb2.mono HB1.out.size)); clear hb2
  go_wp2_with fail
  refine (flent_any _ body _ (HY.out.below HB2.out) (by omega)).mono ?_
  rintro e w3 ⟨vz, rfl, hz3, hb3⟩
  have HZ := Lib.hid hz3; clear hz3
  have HX3 := Lib.hid (HX.out.below hb3); clear HX
  have HB3 := Lib.hid (HB2.out.trans (hb3.mono HB2.out.size)); clear hb3
  by_cases hgood : b.length % 32 = 0 ∧ body.length ≤ 65536
  · obtain ⟨h32, h65⟩ := hgood
    have H32 := Lib.hid h32; clear h32
    go_wp2_with fail
    refine (fput_any _ _ b body n _ HX3.out.rd HZ.out.rd HN.out (by omega) H32.out h65).mono ?_
    rintro e w4 ⟨v4, rfl, ho4, hb4⟩
    obtain ⟨F, hF⟩ : ∃ F, F = b ++ frameOf n body := ⟨_, rfl⟩
    have hFl : F.length ≤ 2000000 := by rw [hF, List.length_append, frameOf_len]; unfold bl; omega
    rw [← hF] at ho4
    have HF := Lib.hid hF; clear hF
    have HO4 := Lib.hid ho4; clear ho4
    have HB4 := Lib.hid hb4; clear hb4
    go_wp2_with fail
    have hin4 := HB3.out.trans (HB4.out.mono HB3.out.size)
    refine (rput_any _ _ b body n _ (HB.out.below hin4) (HY.out.below hin4) HN.out (by omega) H32.out h65).mono ?_
    rintro e w5 ⟨v5, rfl, ho5, hb5⟩
    rw [← HF.out] at ho5
    have k5 := conv_rd ho5.rd
    have k4 := conv_rd (HO4.out.below hb5).rd
    have HO5 := Lib.hid (HO4.out.below hb5); clear HO4
    have HB5 := Lib.hid (HB4.out.trans (hb5.mono HB4.out.size)); clear hb5 hin4 ho5
    go_wp2_with fail
    clear k4 k5
    refine (spoil_any _ _ F _ HO5.out (by omega)).mono ?_
    rintro e w6 ⟨rfl, hg6⟩
    have HB6 := Lib.hid (HB5.out.trans (grown_below HO5.out hg6 HB5.out.size)); clear hg6
    go_wp2_with fail
    have hin6 := HB3.out.trans (HB6.out.mono HB3.out.size)
    refine (fkept_any _ _ _ b _ (HX3.out.below HB6.out) (HB.out.below hin6) (by omega)).mono ?_
    rintro e w7 ⟨rfl, hb7⟩
    have HB7 := Lib.hid (HB6.out.trans (hb7.mono HB6.out.size)); clear hb7 hin6
    go_wp2_with fail
    have hin7 := HB3.out.trans (HB7.out.mono HB3.out.size)
    refine (fkept_any _ _ _ body _ (HZ.out.below HB7.out) (HY.out.below hin7) (by omega)).mono ?_
    rintro e w8 ⟨rfl, hb8⟩
    have HB8 := Lib.hid (HB7.out.trans (hb8.mono HB7.out.size)); clear hb8 hin7
    go_wp2_with fail
    go_ret
    exact ⟨rfl, HB3.out.trans (HB8.out.mono HB3.out.size)⟩
  · have hbad : b.length % 32 ≠ 0 ∨ 65536 < body.length := by omega
    obtain ⟨E, hE⟩ : ∃ E : Int, E = if b.length % 32 ≠ 0 then 2 else 40 := ⟨_, rfl⟩
    have HE := Lib.hid hE; clear hE
    have HBAD := Lib.hid hbad; clear hbad hgood
    go_wp2_with fail
    refine (fput_bad _ _ b body n _ HX3.out.rd HZ.out.rd (by omega) (by omega) HBAD.out).mono ?_
    rintro e w4 ⟨rfl, rfl⟩
    rw [← HE.out]
    go_wp2_with fail
    refine (rput_bad _ _ b body n _ (HB.out.below HB3.out) (HY.out.below HB3.out) (by omega) (by omega) HBAD.out).mono ?_
    rintro e w5 ⟨rfl, rfl⟩
    rw [← HE.out]
    have k5 := conv_rd (RdB.nil w3)
    go_wp2_with fail
    clear k5
    refine (spoil_any 0 _ [] _ (Own.nil _ _) (by simp)).mono ?_
    rintro e w6 ⟨rfl, hg6⟩
    have HB6 := Lib.hid (grown_below (Own.nil w3 w3.heap.size) hg6 (Nat.le_refl _)); clear hg6
    go_wp2_with fail
    have hin6 := HB3.out.trans (HB6.out.mono HB3.out.size)
    refine (fkept_any _ _ _ b _ (HX3.out.below HB6.out) (HB.out.below hin6) (by omega)).mono ?_
    rintro e w7 ⟨rfl, hb7⟩
    have HB7 := Lib.hid (HB6.out.trans (hb7.mono HB6.out.size)); clear hb7 hin6
    go_wp2_with fail
    have hin7 := HB3.out.trans (HB7.out.mono HB3.out.size)
    refine (fkept_any _ _ _ body _ (HZ.out.below HB7.out) (HY.out.below hin7) (by omega)).mono ?_
    rintro e w8 ⟨rfl, hb8⟩
    have HB8 := Lib.hid (HB7.out.trans (hb8.mono HB7.out.size)); clear hb8 hin7
    go_wp2_with fail
    go_ret
    exact ⟨rfl, HB3.out.trans (HB8.out.mono HB3.out.size)⟩

theorem framePuts_any (vb : Value) (b : List UInt8) (n : Int) (vy : Value) (body : List UInt8) (w : World) (hb : RdB w vb b) (hn : (Lit.int .u64 n).wf = true) (hy : RdB w vy body) (hl : b.length + body.length ≤ 1048576) :
    Calls Try.prog 10 #[vb, .int .u64 n, vy] w fun e w' => e = .returned (.bool true) ∧ Below w.heap.size w w' := by
  obtain ⟨n, rfl, hn'⟩ := u64_of hn
  exact framePuts_nat vb b n vy body w hb hn' hy hl
end Go.Proofs.Ytggjipfdfpdecaa

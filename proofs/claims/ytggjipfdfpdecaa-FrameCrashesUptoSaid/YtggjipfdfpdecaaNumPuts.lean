/- The walk of the law NumPuts: numbers and texts are laid behind any bytes in their one form, in new memory. Condition: what comes in has together at most 1048576 values and letters. -/
import Derived.Test.YtggjipfdfpdecaaLent
import Derived.Test.YtggjipfdfpdecaaRPut
namespace Go.Proofs.Ytggjipfdfpdecaa
open Go.RowKit
attribute [local go_sem] bs_list

theorem own_only {w w' : World} {base g : Nat} {v : Value} {l : List UInt8} (h : Own w base v l) (hg : w.grownBy w' (some g)) (hb : g < base) : Own w' base v l := by
  refine World.ownsRow.kept h hg ?_
  cases e : v.ownBlock with
  | none => exact .inl rfl
  | some k =>
    have := (World.ownsRow.lt h k e).1
    exact .inr (by intro hk; injection hk with hk; omega)

theorem only_set {w w' : World} {g : Nat} (h : w.grownBy w' (some g)) (i : Nat) (u : Value) : w.grownBy (w'.setCell ⟨g, i, none⟩ u) (some g) :=
  ⟨h.os, h.tape, h.output, by simpa [World.setCell] using h.size, fun k hk hne => (Below.heap_setCell w' ⟨g, i, none⟩ u k (by rintro rfl; exact hne rfl)).trans (h.block k hk hne)⟩

theorem only_below {w w' : World} {B g : Nat} (h : w.grownBy w' (some g)) (hB : B ≤ w.heap.size) (hg : B ≤ g) : Below B w w' := (Below.refl B w).grown h hB fun k hk => by injection hk with hk; omega

set_option maxRecDepth 100000 in
set_option maxHeartbeats 4000000 in
theorem numPuts_nat (vb : Value) (b : List UInt8) (n : Nat) (s : ByteArray) (w : World) (hb : RdB w vb b) (hn : n < 18446744073709551616) (hl : b.length + s.size ≤ 1048576) :
    Calls Try.prog 5 #[vb, .int .u64 n, .string s] w fun e w' => e = .returned (.bool true) ∧ Below w.heap.size w w' := by
  obtain ⟨A, c, rfl, _, _, _⟩ := id hb
  have HB := Lib.hid hb; clear hb
  have HN := Lib.hid hn; clear hn
  have hlb : b.length ≤ 1048576 := by omega
  have hls : s.size ≤ 1048576 := by omega
  have HL := Lib.hid hl; clear hl
  go_enter Try.func5, Try.ntmps5
  go_wp2_with fail
  refine (shown_any w).mono ?_
  rintro e w1 ⟨rfl, hb1⟩
  have HB1 := Lib.hid hb1; clear hb1
  go_wp2_with fail
  refine (lent_any _ b _ (HB.out.below HB1.out) (by omega)).mono ?_
  rintro e w2 ⟨g, rfl, hw2, hg2, hb2⟩
  have hb12 := HB1.out.trans (hb2.mono HB1.out.size)
  have hgw : w.heap.size ≤ g := Nat.le_trans HB1.out.size hg2
  have HW2 := Lib.hid hw2; clear hw2
  have HB2 := Lib.hid hb12; clear hb12 hb2 hg2
  have hrd2 := HW2.out.rd (n := b.length) (c := b.length + 16) (by simp) (by omega) (by simp only [maxLen]; omega)
  rw [List.take_left] at hrd2
  have hgl := HW2.out.lt
  have HR2 := Lib.hid hrd2; clear hrd2
  go_wp2_with fail
  refine (put_any _ b n _ HR2.out HN.out (by omega)).mono ?_
  rintro e w3 ⟨v3, rfl, ho3, hb3⟩
  have HO3 := Lib.hid ho3; clear ho3
  have HB3 := Lib.hid hb3; clear hb3
  go_wp2_with fail
  refine (putText_any _ b s _ (HR2.out.below HB3.out) (by omega)).mono ?_
  rintro e w4 ⟨v4, rfl, ho4, hb4⟩
  have HO4 := Lib.hid ho4; clear ho4
  have HB4 := Lib.hid (HB3.out.trans (hb4.mono HB3.out.size))
  have HO3b := Lib.hid (HO3.out.below hb4); clear HO3
  have HS4 := Lib.hid hb4.size; clear hb4
  go_wp2_with fail
  have hin4 := HB2.out.trans (HB4.out.mono HB2.out.size)
  refine (refPut_any _ b n _ (HB.out.below hin4) HN.out (by omega)).mono ?_
  rintro e w5 ⟨v5, rfl, ho5, hb5⟩
  have k5 := conv_rd ho5.rd
  have HB5 := Lib.hid (HB4.out.trans (hb5.mono HB4.out.size))
  have HO3c := Lib.hid (HO3b.out.below hb5); clear HO3b
  have HO4c := Lib.hid (HO4.out.below hb5); clear HO4
  have HS5 := Lib.hid hb5.size; clear hb5 hin4 ho5
  go_wp2_with fail
  have hin5 := HB2.out.trans (HB5.out.mono HB2.out.size)
  refine (refPutText_any _ b s _ (HB.out.below hin5) (by omega)).mono ?_
  rintro e w6 ⟨v6, rfl, ho6, hb6⟩
  have k6 := conv_rd ho6.rd
  have HB6 := Lib.hid (HB5.out.trans (hb6.mono HB5.out.size))
  have HO3d := Lib.hid (HO3c.out.below hb6); clear HO3c
  have HO4d := Lib.hid (HO4c.out.below hb6); clear HO4c
  clear hb6 hin5 ho6 k5
  go_wp2_with fail
  clear k6
  have hin6 := HB2.out.trans (HB6.out.mono HB2.out.size)
  refine (still_any g _ _ _ b _ rfl rfl (HW2.out.keep HB6.out) (HB.out.below hin6) (by omega)).mono ?_
  rintro e w7 ⟨rfl, hb7⟩
  have HB7 := Lib.hid (HB6.out.trans (hb7.mono HB6.out.size))
  have HO3e := Lib.hid (HO3d.out.below hb7); clear HO3d
  have HO4e := Lib.hid (HO4d.out.below hb7); clear HO4d
  have hb07 := HB2.out.trans (HB7.out.mono HB2.out.size)
  have HIN7 := Lib.hid hb07
  have hgb3 : g < w2.heap.size := hgl
  have hgb4 : g < w3.heap.size := Nat.lt_of_lt_of_le hgl HB3.out.size
  clear hb7 hin6 hb07
  have hw7 := HW2.out.keep HB7.out
  have HW7 := Lib.hid hw7; clear hw7 HW2 HR2 HB6 HB5 HB4 HB3
  obtain ⟨X3, hX3⟩ : ∃ X, X = b ++ uvar n := ⟨_, rfl⟩
  obtain ⟨X4, hX4⟩ : ∃ X, X = b ++ (uvar s.size ++ s.data.toList) := ⟨_, rfl⟩
  rw [← hX3] at HO3e ⊢
  rw [List.append_assoc, ← hX4] at HO4e
  rw [← hX4]
  clear hX3 hX4
  go_wp2_with fail
  go_loopw [14] (fun i wr => ∃ (k : Nat) (L : List UInt8), k ≤ b.length ∧ i = .int .i64 (k : Int) ∧ L.length = b.length + 16 ∧ Whole wr g L ∧ w7.grownBy wr (some g)) (fun i _ => b.length - (intOf i).toNat)
  case atStart => exact ⟨0, b ++ room, by omega, rfl, by simp [room_len], HW7.out, World.grownBy.refl _ _⟩
  case round =>
    obtain ⟨k, L, hk, rfl, hL, hwk, hgr⟩ := hrel
    have HGR := Lib.hid hgr; clear hgr
    by_cases hlt : k < b.length
    · obtain ⟨z, hcell⟩ : ∃ z : UInt8, wr.cell? ⟨g, k, none⟩ = some (.int .u8 (z.toNat : Int)) := ⟨_, hwk.cell k (by omega)⟩
      have hfr := hwk.frozen k
      have hs := hwk.set_ k 1
      have HL2 := Lib.hid hL; clear hL
      have HW := Lib.hid hs; clear hs hwk
      go_wp2_with fail
      go_roundw
      case rel => exact ⟨k + 1, L.set k 1, by omega, by go_num, by rw [List.length_set]; exact HL2.out, HW.out, only_set HGR.out _ _⟩
      case measure => simp [intOf]; omega
    · have k3 := conv_rd (own_only HO3e.out HGR.out hgb3).rd
      have k4 := conv_rd (own_only HO4e.out HGR.out hgb4).rd
      have hfin := HIN7.out.trans (only_below HGR.out HIN7.out.size hgw)
      have HF := Lib.hid hfin; clear hfin hL hwk
      go_wp2_with fail
      go_ret
      exact ⟨rfl, HF.out⟩

theorem numPuts_any (vb : Value) (b : List UInt8) (n : Int) (s : ByteArray) (w : World) (hb : RdB w vb b) (hn : (Lit.int .u64 n).wf = true) (hl : b.length + s.size ≤ 1048576) :
    Calls Try.prog 5 #[vb, .int .u64 n, .string s] w fun e w' => e = .returned (.bool true) ∧ Below w.heap.size w w' := by
  obtain ⟨n, rfl, hn'⟩ := u64_of hn
  exact numPuts_nat vb b n s w hb hn' hl
end Go.Proofs.Ytggjipfdfpdecaa

/- The walk of the law NumTurns: one byte that is turned turns the sum. -/
import Derived.Test.YtggjipfdfpdecaaCuts
import Derived.Test.YtggjipfdfpdecaaNumC
namespace Go.Proofs.Ytggjipfdfpdecaa
open Go.RowKit

theorem turn_list (l : List UInt8) (i : Nat) (h : i < l.length) (b : UInt8) (hb : b ≠ 0) : crc l ≠ crc (l.set i (l[i] ^^^ b)) := by
  have h1 : l = l.take i ++ l[i] :: l.drop (i + 1) := by simp
  have h2 : l.set i (l[i] ^^^ b) = l.take i ++ (l[i] ^^^ b) :: l.drop (i + 1) := by
    rw [List.set_eq_take_append_cons_drop, if_pos h]
  rw [h2]
  conv => lhs; rw [h1]
  apply crc_turn
  intro e
  apply hb
  have := congrArg (fun x => l[i] ^^^ x) e
  simpa [← UInt8.xor_assoc] using this.symm

set_option maxRecDepth 100000 in
set_option maxHeartbeats 1000000 in
theorem numTurns_nat (v : Value) (l : List UInt8) (at_ : Int) (b : UInt8) (w : World) (hr : RdB w v l) (hl : l.length ≤ 140737488351232) (h1 : -9223372036854775808 ≤ at_) (h2 : at_ ≤ 9223372036854775807) :
    Calls Try.prog 6 #[v, .int .i64 at_, .int .u8 (b.toNat : Int)] w fun e w' => e = .returned (.bool true) ∧ Below w.heap.size w w' := by
  obtain ⟨A, c, rfl, hc1, hc2, _⟩ := id hr
  have hm : l.length ≤ 9223372036854775807 := by omega
  clear hc1 hc2
  have HR := Lib.hid hr; clear hr
  by_cases hlo : at_ < 0
  · go_enter Try.func6, Try.ntmps6
    go_wp2_with fail
    refine (shown_any w).mono ?_
    rintro e w1 ⟨rfl, hb1⟩
    have HB1 := Lib.hid hb1; clear hb1
    go_wp2_with fail
    go_ret
    exact ⟨rfl, HB1.out⟩
  by_cases hhi : (l.length : Int) ≤ at_
  · go_enter Try.func6, Try.ntmps6
    go_wp2_with fail
    refine (shown_any w).mono ?_
    rintro e w1 ⟨rfl, hb1⟩
    have HB1 := Lib.hid hb1; clear hb1
    go_wp2_with fail
    go_ret
    exact ⟨rfl, HB1.out⟩
  by_cases hz : b = 0
  · have t0 : ((b.toNat : Int) == 0) = true := by subst hz; rfl
    go_enter Try.func6, Try.ntmps6
    go_wp2_with fail
    refine (shown_any w).mono ?_
    rintro e w1 ⟨rfl, hb1⟩
    have HB1 := Lib.hid hb1; clear hb1
    go_wp2_with fail
    go_ret
    exact ⟨rfl, HB1.out⟩
  · have t0 : ((b.toNat : Int) == 0) = false := by
      rw [beq_eq_false_iff_ne]
      intro e
      apply hz
      apply UInt8.toNat_inj.1
      show b.toNat = 0
      omega
    obtain ⟨i, rfl⟩ := Int.eq_ofNat_of_zero_le (by omega : 0 ≤ at_)
    have hi : i < l.length := by omega
    have hne := turn_list l i hi b hz
    have hmk := make_run l.length (by omega)
    obtain ⟨l2, hl2⟩ : ∃ l2, l2 = l.set i (l[i] ^^^ b) := ⟨_, rfl⟩
    rw [← hl2] at hne
    have hne' : ((crc l).toNat : Int) ≠ ((crc l2).toNat : Int) := by
      intro e
      exact hne (BitVec.eq_of_toNat_eq (by omega))
    have t1 : (((crc l).toNat : Int) != ((crc l2).toNat : Int)) = true := by rw [bne_iff_ne]; exact hne'
    clear hne hne'
    have HL2 := Lib.hid hl2; clear hl2
    clear hlo hhi
    go_enter Try.func6, Try.ntmps6
    go_wp2_with fail
    refine (shown_any w).mono ?_
    rintro e w1 ⟨rfl, hb1⟩
    have HB1 := Lib.hid hb1; clear hb1
    go_wp2_with fail
    refine (crc_one _ l _ (HR.out.below HB1.out)).mono ?_
    rintro e w' ⟨rfl, rfl⟩
    obtain ⟨w2, hw2⟩ : ∃ w2, w2 = w1.alloc (.cells #[Value.slice A l.length c] 25) := ⟨_, rfl⟩
    have hb2 : Below w.heap.size w w2 := by rw [hw2]; exact HB1.out.alloc HB1.out.size _
    rw [← hw2]
    clear hw2 HB1
    have hrd : RdB (w2.alloc (.cells (madeCells #[.int .u8 0] l.length) 5)) (.slice A l.length c) l := (HR.out.below hb2).below ((Below.refl _ _).alloc (Nat.le_refl _) _)
    have ho := make_own w2 w.heap.size l.length hb2.size (by omega)
    have HRD := Lib.hid hrd; clear hrd
    have HO := Lib.hid ho; clear ho
    have HB2 := Lib.hid hb2; clear hb2
    go_wp2_with (at_builtin; refine own_append_row w.heap.size rfl (.tmp 30) (.tmp 31) rfl _ _ [] l rfl rfl HO.out HRD.out ?hb ?hl ?_; (case hb => have := HB2.out.size; simp; omega); (case hl => simp; omega); intro v1 w3 hown hb3 hg hat; simp only [List.nil_append] at hown; obtain ⟨g, cap, rfl, hgb, hgl, hgc, hgm⟩ := Own.form hown (by omega); have hci := Own.at_ hown i hi; obtain ⟨hci, hfi⟩ := hci; rw [bv_nat] at hci; have HOW := Lib.hid hown; clear hown hat hg hgb; have HB3 := Lib.hid hb3; clear hb3; simp only [maxLen] at hgm)
    have hs := Own.set_ HOW.out i (l[i] ^^^ b)
    rw [← xor_bv, ← HL2.out] at hs
    obtain ⟨hs1, hs2⟩ := hs
    refine (crc_oneH _ _ l2 _ hs1.rd (by simp)).mono ?_
    rintro e w' ⟨rfl, rfl⟩
    have hfin := (((HB2.out.alloc HB2.out.size (.cells (madeCells #[.int .u8 0] l.length) 5)).trans HB3.out).trans hs2)
    have HF := Lib.hid hfin; clear hfin hs2 hs1
    go_wp2_with fail
    go_ret
    refine ⟨rfl, HF.out.alloc HF.out.size _⟩
theorem numTurns_any (v : Value) (l : List UInt8) (at_ : Int) (b : Int) (w : World) (hr : RdB w v l) (hl : l.length * 1 ≤ 140737488351232) (h1 : (Lit.int .i64 at_).wf = true) (hb : (Lit.int .u8 b).wf = true) :
    Calls Try.prog 6 #[v, .int .i64 at_, .int .u8 b] w fun e w' => e = .returned (.bool true) ∧ Below w.heap.size w w' := by
  obtain ⟨b, rfl⟩ := u8_of hb
  exact numTurns_nat v l at_ b w hr (by omega) (i64_of h1).1 (i64_of h1).2
end Go.Proofs.Ytggjipfdfpdecaa

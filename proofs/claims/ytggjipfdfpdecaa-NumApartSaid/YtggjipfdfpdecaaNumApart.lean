/- The walk of the law NumApart: no number's bytes are the beginning of another one's. -/
import Derived.Test.YtggjipfdfpdecaaCuts
namespace Go.Proofs.Ytggjipfdfpdecaa
open Go.RowKit
attribute [local go_sem] bs_list

set_option maxRecDepth 100000 in
set_option maxHeartbeats 1000000 in
theorem numApart_nat (n m : Nat) (w : World) (hn : n < 18446744073709551616) (hm : m < 18446744073709551616) :
    Calls Try.prog 4 #[.int .u64 n, .int .u64 m] w fun e w' => e = .returned (.bool true) ∧ Below w.heap.size w w' := by
  have HN := Lib.hid hn; clear hn
  have HM := Lib.hid hm; clear hm
  go_enter Try.func4, Try.ntmps4
  go_wp2_with fail
  refine (shown_any w).mono ?_
  rintro e w1 ⟨rfl, hb1⟩
  have HB1 := Lib.hid hb1; clear hb1
  go_wp2_with fail
  refine (put_any _ [] n _ (RdB.nil _) HN.out (by simp)).mono ?_
  rintro e w2 ⟨v2, rfl, ho2, hb2⟩
  have HB2 := Lib.hid hb2; clear hb2
  have HO2 := Lib.hid ho2; clear ho2
  go_wp2_with fail
  refine (put_any _ [] m _ (RdB.nil _) HM.out (by simp)).mono ?_
  rintro e w3 ⟨v3, rfl, ho3, hb3⟩
  have hr2 := HO2.out.rd.below hb3
  have hr3 := ho3.rd
  have HB3 := Lib.hid hb3; clear hb3
  clear HO2 ho3
  simp only [List.nil_append] at hr2 hr3
  obtain ⟨la, hla⟩ : ∃ l, l = uvar n := ⟨_, rfl⟩
  obtain ⟨lb, hlb⟩ : ∃ l, l = uvar m := ⟨_, rfl⟩
  rw [← hla] at hr2
  rw [← hlb] at hr3
  have HLA := Lib.hid hla; clear hla
  have HLB := Lib.hid hlb; clear hlb
  obtain ⟨A2, c2, rfl, hc2, hm2, _⟩ := id hr2
  obtain ⟨A3, c3, rfl, hc3, hm3, _⟩ := id hr3
  have k2 := fun k => conv_rd (hr2.drewN k)
  have k3 := fun k => conv_rd (hr3.drewN k)
  simp only [maxLen] at hm2 hm3
  have hin : Below w.heap.size w w3 := by
    have b1 := HB1.out
    have b2 := HB2.out
    have b3 := HB3.out
    exact (b1.trans (b2.mono b1.size)).trans (b3.mono (Nat.le_trans b1.size b2.size))
  have HIN := Lib.hid hin; clear hin HB1 HB2 HB3
  have hpos : 1 ≤ la.length := by rw [HLA.out]; exact uvar_pos n
  by_cases hlen : lb.length < la.length
  · have hne : n ≠ m := by
      rintro rfl
      rw [HLA.out, HLB.out] at hlen
      omega
    have t1 : ((n : Int) != (m : Int)) = true := by rw [bne_iff_ne]; omega
    obtain ⟨r, hr, hcut, hcr⟩ := cut_h A2 c2 la lb.length (by omega) (by omega) hc2
    have hne2 : ¬ r = lb := by
      intro e
      rw [e] at hr
      simp only [Int.toNat_natCast] at hr
      rw [HLA.out, HLB.out] at hr
      exact hne (uvar_take hr.symm).symm
    have t2 : (r == lb) = false := by rw [beq_eq_false_iff_ne]; exact hne2
    have kr := fun k => conv_rd (hcr _ (hr2.drewN k))
    have HR := Lib.hid hr; clear hr
    clear hcr hr2 hr3 k2
    go_wp2_with fail
    go_quiet (fail)
    go_wp2
    go_ret
    exact ⟨rfl, below_drewN HIN.out _⟩
  · obtain ⟨r, hr, hcut, hcr⟩ := cut_h A3 c3 lb la.length (by omega) (by omega) hc3
    simp only [Int.toNat_natCast] at hr
    have kr := fun k => conv_rd (hcr _ (hr3.drewN k))
    have t0 : decide (1 ≤ (la.length : Int)) = true := by simp; omega
    have hiff : (r = la) ↔ n = m := by
      rw [hr, HLA.out, HLB.out]
      constructor
      · exact uvar_take
      · rintro rfl
        rw [List.take_length]
    clear hcr hr2 hr3 k3 hr
    by_cases e : n = m
    · have t1 : ((n : Int) == (m : Int)) = true := by rw [beq_iff_eq]; omega
      have t2 : (r == la) = true := by rw [beq_iff_eq]; exact hiff.2 e
      clear hiff e
      go_wp2_with fail
      go_quiet (fail)
      go_wp2
      go_ret
      exact ⟨rfl, below_drewN HIN.out _⟩
    · have t1 : ((n : Int) == (m : Int)) = false := by rw [beq_eq_false_iff_ne]; omega
      have t2 : (r == la) = false := by rw [beq_eq_false_iff_ne]; exact fun h => e (hiff.1 h)
      clear hiff e
      go_wp2_with fail
      go_quiet (fail)
      go_wp2
      go_ret
      exact ⟨rfl, below_drewN HIN.out _⟩

theorem numApart_any (n m : Int) (w : World) (hn : (Lit.int .u64 n).wf = true) (hm : (Lit.int .u64 m).wf = true) :
    Calls Try.prog 4 #[.int .u64 n, .int .u64 m] w fun e w' => e = .returned (.bool true) ∧ Below w.heap.size w w' := by
  obtain ⟨n, rfl, hn'⟩ := u64_of hn
  obtain ⟨m, rfl, hm'⟩ := u64_of hm
  exact numApart_nat n m w hn' hm'
end Go.Proofs.Ytggjipfdfpdecaa

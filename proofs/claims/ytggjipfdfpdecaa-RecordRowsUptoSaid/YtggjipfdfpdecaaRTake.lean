/- The walk of varveref01.Take: what the document answers where a number is read. -/
import Derived.Test.YtggjipfdfpdecaaTake
namespace Go.Proofs.Ytggjipfdfpdecaa
open Go.RowKit

theorem rt_add (k acc x pt : Nat) (hk : k ≤ 9) (hpt : pt = 128 ^ k) (hacc : acc < 128 ^ k) (hx : x < 256) (h9 : k = 9 → x ≤ 1) :
    IntKind.u64.wrap ((acc : Int) + IntKind.u64.wrap ((x : Int) % 128 * (pt : Int))) = ((acc + x % 128 * 128 ^ k : Nat) : Int) := by
  obtain ⟨_, _, h2⟩ := tk_or k acc x hk hacc hx h9
  subst hpt
  have h3 : (x : Int) % 128 * ((128 ^ k : Nat) : Int) = ((x % 128 * 128 ^ k : Nat) : Int) := by simp
  rw [h3, IntKind.wrap_u64, IntKind.wrap_u64, Int.emod_eq_of_lt (by omega) (by omega), Int.emod_eq_of_lt (by omega) (by omega)]
  omega

theorem rt_part (k pt : Nat) (hk : k ≤ 8) (hpt : pt = 128 ^ k) : IntKind.u64.wrap ((pt : Int) * 128) = ((128 ^ (k + 1) : Nat) : Int) := by
  subst hpt
  have hp : 128 ^ (k + 1) ≤ 128 ^ 9 := Nat.pow_le_pow_right (by omega) (by omega)
  have h3 : ((128 ^ k : Nat) : Int) * 128 = ((128 ^ (k + 1) : Nat) : Int) := by simp [Int.pow_succ]
  rw [h3]
  generalize 128 ^ (k + 1) = z at hp
  rw [IntKind.wrap_u64, Int.emod_eq_of_lt (by omega) (by omega)]

set_option maxRecDepth 100000 in
set_option maxHeartbeats 1000000 in
theorem refTake_any (v : Value) (l : List UInt8) (at_ : Int) (w : World) (hr : RdB w v l) (hl : l.length ≤ 140737488355328) :
    Calls Try.prog 33 #[v, .int .i64 at_] w fun e w' => e = .returned (tkVal (tkAt l at_)) ∧ w = w' := by
  obtain ⟨A, c, rfl, hc1, hc2, hcell⟩ := id hr
  by_cases hlo : at_ < 0
  · have hv : tkAt l at_ = none := tkAt_out (by omega)
    rw [hv]
    go_enter Try.func33, Try.ntmps33
    go_wp2
    go_ret3
    exact ⟨rfl, rfl⟩
  by_cases hhi : (l.length : Int) ≤ at_
  · have hv : tkAt l at_ = none := tkAt_out (by omega)
    rw [hv]
    go_enter Try.func33, Try.ntmps33
    go_wp2
    go_ret3
    exact ⟨rfl, rfl⟩
  obtain ⟨i, rfl⟩ := Int.eq_ofNat_of_zero_le (by omega : 0 ≤ at_)
  have hi : i < l.length := by omega
  rw [tkAt_in hi]
  obtain ⟨q, hq⟩ : ∃ q, q = (tkGo 0 0 (l.drop i)).map fun p => (p.1, i + p.2) := ⟨_, rfl⟩
  rw [← hq]
  have HQ := Lib.hid hq; clear hq
  have HC := Lib.hid hcell; clear hcell
  clear hr hc1 hc2 hlo hhi
  go_enter Try.func33, Try.ntmps33
  go_wp2
  go_loop [7, 8, 9] (fun n p j => ∃ (k acc pt : Nat), k ≤ 10 ∧ j = .int .i64 k ∧ n = .int .u64 acc ∧ p = .int .u64 pt ∧ (k ≤ 9 → pt = 128 ^ k) ∧ acc < 128 ^ k ∧ i + k ≤ l.length ∧ tkGo k acc (l.drop (i + k)) = tkGo 0 0 (l.drop i)) (fun _ _ j => 10 - (intOf j).toNat)
  case atStart => exact ⟨0, 0, 1, Nat.zero_le _, rfl, rfl, rfl, fun _ => rfl, by omega, by omega, rfl⟩
  case round =>
    obtain ⟨k, acc, pt, hk, rfl, rfl, rfl, hpt, hacc, hik, htk⟩ := hrel
    have HPT := Lib.hid hpt; clear hpt
    have HACC := Lib.hid hacc; clear hacc
    have hfin : ∀ z, tkGo 0 0 (l.drop i) = z → q = z.map fun p => (p.1, i + p.2) := by rintro z rfl; exact HQ.out
    have HF := Lib.hid hfin; clear hfin
    by_cases hk10 : k < 10
    · by_cases hlt : i + k < l.length
      · obtain ⟨ad, hA, hcells⟩ := HC.out (by omega)
        subst hA
        have hck := hcells (i + k) hlt
        rw [bv_nat] at hck
        obtain ⟨x, hx⟩ : ∃ x, x = l[i + k].toNat := ⟨_, rfl⟩
        have hx256 : x < 256 := by rw [hx]; exact l[i + k].toNat_lt
        rw [← hx] at hck
        rw [List.drop_eq_getElem_cons hlt, tkGo, ← hx] at htk
        have HTK := Lib.hid htk; clear htk hx hcells
        by_cases h9 : k = 9 ∧ 1 < x
        · have e1 : ((k : Int) == 9) = true := by rw [beq_iff_eq]; omega
          have e2 : decide (1 < (x : Int)) = true := by simp; omega
          have hres := HTK.out
          rw [if_neg (by omega), if_pos h9] at hres
          obtain rfl : q = none := HF.out _ hres.symm
          clear hres h9 HQ HF HTK
          go_wp2
          go_ret3
          exact ⟨rfl, rfl⟩
        · by_cases h128 : 128 ≤ x
          · have hres := HTK.out
            rw [if_neg (by omega), if_neg h9, if_pos h128] at hres
            have hk8 : k ≤ 8 := by omega
            have e1 : ((k : Int) == 9) = false := by rw [beq_eq_false_iff_ne]; omega
            have HRES := Lib.hid hres; clear hres
            clear h9 HTK
            go_wp2
            go_round
            case rel => exact ⟨k + 1, acc + x % 128 * 128 ^ k, 128 ^ (k + 1), by omega, by go_num, by rw [rt_add k acc x pt (by omega) (HPT.out (by omega)) HACC.out hx256 (by omega)], by rw [rt_part k pt hk8 (HPT.out (by omega))], fun _ => rfl, (tk_or k acc x (by omega) HACC.out hx256 (by omega)).2.1, by omega, HRES.out⟩
            case measure => simp [intOf]; omega
          · by_cases h0 : 0 < k ∧ x = 0
            · have hres := HTK.out
              rw [if_neg (by omega), if_neg h9, if_neg h128, if_pos h0] at hres
              obtain rfl : q = none := HF.out _ hres.symm
              have e1 : ((x : Int) == 0) = true := by rw [beq_iff_eq]; omega
              have e2 : decide (1 < (x : Int)) = false := by simp; omega
              have e3 : 0 < k := h0.1
              clear h9 hres h0 HTK HF HQ
              by_cases hk9 : k = 9
              · have e9 : ((k : Int) == 9) = true := by rw [beq_iff_eq]; omega
                clear hk9
                go_wp2
                go_ret3
                exact ⟨rfl, rfl⟩
              · have e9 : ((k : Int) == 9) = false := by rw [beq_eq_false_iff_ne]; omega
                clear hk9
                go_wp2
                go_ret3
                exact ⟨rfl, rfl⟩
            · have hres := HTK.out
              rw [if_neg (by omega), if_neg h9, if_neg h128, if_neg h0] at hres
              obtain rfl : q = _ := HF.out _ hres.symm
              have ho := rt_add k acc x pt (by omega) (HPT.out (by omega)) HACC.out hx256 (by omega)
              have HOR := Lib.hid ho
              by_cases hk9 : k = 9
              · have e9' : ((k : Int) == 9) = true := by rw [beq_iff_eq]; omega
                have e2 : decide (1 < (x : Int)) = false := by simp; omega
                have e3 : 0 < k := by omega
                have e1 : ((x : Int) == 0) = false := by rw [beq_eq_false_iff_ne]; omega
                clear hres HTK HF HQ h9 h0 hk9 ho
                go_wp2
                go_ret3
                refine ⟨?_, rfl⟩
                rw [HOR.out]
                simp [tkVal, Int.add_assoc]
              · have e9' : ((k : Int) == 9) = false := by rw [beq_eq_false_iff_ne]; omega
                by_cases hk0 : 0 < k
                · have e1 : ((x : Int) == 0) = false := by rw [beq_eq_false_iff_ne]; omega
                  clear hres HTK HF HQ h9 h0 hk9 ho
                  go_wp2
                  go_ret3
                  refine ⟨?_, rfl⟩
                  rw [HOR.out]
                  simp [tkVal, Int.add_assoc]
                · have e1 : decide (0 < (k : Int)) = false := by simp; omega
                  clear hres HTK HF HQ h9 h0 hk9 ho
                  go_wp2
                  go_ret3
                  refine ⟨?_, rfl⟩
                  rw [HOR.out]
                  simp [tkVal, Int.add_assoc]
      · rw [List.drop_eq_nil_of_le (by omega)] at htk
        obtain rfl : q = none := HF.out _ htk.symm
        clear htk HQ HF
        go_wp2
        go_ret3
        exact ⟨rfl, rfl⟩
    · obtain rfl : k = 10 := by omega
      rw [tkGo_ten] at htk
      obtain rfl : q = none := HF.out _ htk.symm
      clear htk HQ HF
      go_wp2
      go_ret3
      exact ⟨rfl, rfl⟩
end Go.Proofs.Ytggjipfdfpdecaa

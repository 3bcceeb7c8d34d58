/- The walks of num.Take and varveref01.Take: a number is read at a place of any bytes, or none is. -/
import Derived.Test.YtggjipfdfpdecaaCuts
namespace Go.Proofs.Ytggjipfdfpdecaa
open Go.RowKit

/-- What a reader answers, as the program's three results. -/
def tkVal : Option (Nat × Nat) → Value
  | none => .tuple #[.int .u64 0, .int .i64 0, .bool false]
  | some (n, k) => .tuple #[.int .u64 (n : Int), .int .i64 (k : Int), .bool true]

theorem tk_and (x : Nat) (hx : x < 256) : IntKind.u64.wrap (bits .and .u8 (x : Int) 127) = ((x % 128 : Nat) : Int) := by
  have h := u8_and_nat x 127 hx (by omega)
  rw [show ((127 : Nat) : Int) = 127 from rfl] at h
  rw [h, show (127 : Nat) = 2 ^ 7 - 1 from rfl, Nat.and_two_pow_sub_one_eq_mod, IntKind.wrap_u64]
  omega

theorem tk_or (k acc x : Nat) (hk : k ≤ 9) (hacc : acc < 128 ^ k) (hx : x < 256) (h9 : k = 9 → x ≤ 1) :
    bits .or .u64 (acc : Int) (IntKind.u64.wrap (IntKind.u64.wrap (bits .and .u8 (x : Int) 127) * 2 ^ (7 * k))) = ((acc + x % 128 * 128 ^ k : Nat) : Int) ∧ acc + x % 128 * 128 ^ k < 128 ^ (k + 1) ∧ acc + x % 128 * 128 ^ k < 18446744073709551616 := by
  have hp : 128 ^ k = 2 ^ (7 * k) := by rw [Nat.pow_mul]
  have h1 : acc + x % 128 * 128 ^ k < 128 ^ (k + 1) := by
    rw [Nat.pow_succ, Nat.mul_comm (128 ^ k)]
    have := Nat.mul_le_mul_right (128 ^ k) (show x % 128 ≤ 127 by omega)
    omega
  have h2 : acc + x % 128 * 128 ^ k < 18446744073709551616 := by
    by_cases e : k = 9
    · subst e
      have := Nat.mul_le_mul_right (128 ^ 9) (show x % 128 ≤ 1 by have := h9 rfl; omega)
      omega
    · have : 128 ^ (k + 1) ≤ 128 ^ 9 := Nat.pow_le_pow_right (by omega) (by omega)
      omega
  refine ⟨?_, h1, h2⟩
  rw [tk_and x hx]
  have h3 : ((x % 128 : Nat) : Int) * 2 ^ (7 * k) = ((x % 128 * 128 ^ k : Nat) : Int) := by
    rw [hp]
    simp
  have h4 : IntKind.u64.wrap ((x % 128 * 128 ^ k : Nat) : Int) = ((x % 128 * 128 ^ k : Nat) : Int) := by
    rw [IntKind.wrap_u64, Int.emod_eq_of_lt (by omega) (by omega)]
  rw [h3, h4, u64_or_nat _ _ (by omega) (by omega)]
  congr 1
  rw [hp] at hacc ⊢
  rw [Nat.or_comm, Nat.mul_comm (x % 128), ← Nat.two_pow_add_eq_or_of_lt hacc]
  omega

theorem tkAt_out {l : List UInt8} {at_ : Int} (h : ¬ (0 ≤ at_ ∧ at_ < l.length)) : tkAt l at_ = none := by unfold tkAt; rw [if_neg h]
theorem tkAt_in {l : List UInt8} {i : Nat} (h : i < l.length) : tkAt l (i : Int) = (tkGo 0 0 (l.drop i)).map fun p => (p.1, i + p.2) := by
  unfold tkAt; rw [if_pos (by omega)]; simp

set_option maxRecDepth 100000 in
set_option maxHeartbeats 1000000 in
theorem take_any (v : Value) (l : List UInt8) (at_ : Int) (w : World) (hr : RdB w v l) (hl : l.length ≤ 140737488355328) :
    Calls Try.prog 32 #[v, .int .i64 at_] w fun e w' => e = .returned (tkVal (tkAt l at_)) ∧ w = w' := by
  obtain ⟨A, c, rfl, hc1, hc2, _⟩ := id hr
  by_cases hlo : at_ < 0
  · have hv : tkAt l at_ = none := tkAt_out (by omega)
    rw [hv]
    go_enter Try.func32, Try.ntmps32
    go_wp2
    go_ret3
    exact ⟨rfl, rfl⟩
  by_cases hhi : (l.length : Int) ≤ at_
  · have hv : tkAt l at_ = none := tkAt_out (by omega)
    rw [hv]
    go_enter Try.func32, Try.ntmps32
    go_wp2
    go_ret3
    exact ⟨rfl, rfl⟩
  obtain ⟨i, rfl⟩ := Int.eq_ofNat_of_zero_le (by omega : 0 ≤ at_)
  have hi : i < l.length := by omega
  rw [tkAt_in hi]
  obtain ⟨q, hq⟩ : ∃ q, q = (tkGo 0 0 (l.drop i)).map fun p => (p.1, i + p.2) := ⟨_, rfl⟩
  rw [← hq]
  have hmin : (if (l.length : Int) < (i : Int) + 10 then (l.length : Int) else (i : Int) + 10) = ((min (i + 10) l.length : Nat) : Int) := by split <;> omega
  obtain ⟨r, A', c', hrr, hcut, hcr⟩ := cut_lh A c l i ((min (i + 10) l.length : Nat) : Int) (by omega) (by omega) (by omega) hc1
  have hrl : r.length ≤ 10 := by rw [hrr, List.length_drop, List.length_take]; omega
  have hr2 : r = (l.drop i).take 10 := by
    rw [hrr, Int.toNat_natCast, Int.toNat_natCast, List.drop_take, List.take_eq_take_iff, List.length_drop]
    omega
  have hrd := hcr w hr
  obtain ⟨_, _, he, _, _, hcell⟩ := hrd
  have hcell' : ∀ k, (h : k < r.length) → ∃ ad : Addr, A' = some ad ∧ w.cell? (ad.add k) = some (bv r[k]) := by
    intro k hk
    injection he with e1 e2 e3
    subst e1
    obtain ⟨ad, hA, hc⟩ := hcell (by omega)
    exact ⟨ad, hA, hc k hk⟩
  have hq2 : q = (tkGo 0 0 r).map fun p => (p.1, i + p.2) := by rw [hq, hr2, tkGo_take _ 10 0 0 rfl]
  have hi2 : i ≤ 140737488355328 := by omega
  clear hrr hr2 hcr he hcell hr hc1 hc2 hq hlo hhi hl
  have HQ := Lib.hid hq2; clear hq2
  have HC := Lib.hid hcell'; clear hcell'
  go_enter Try.func32, Try.ntmps32
  go_wp2
  go_loop [7, 27] (fun n j => ∃ (k acc : Nat), k ≤ r.length ∧ j = .int .i64 k ∧ n = .int .u64 acc ∧ acc < 128 ^ k ∧ tkGo k acc (r.drop k) = tkGo 0 0 r) (fun _ j => r.length - (intOf j).toNat)
  case atStart => exact ⟨0, 0, Nat.zero_le _, rfl, rfl, by omega, rfl⟩
  case round =>
    obtain ⟨k, acc, hk, rfl, rfl, hacc, htk⟩ := hrel
    by_cases hlt : k < r.length
    · obtain ⟨ad, hA, hck⟩ := HC.out k hlt
      subst hA
      rw [bv_nat] at hck
      obtain ⟨x, hx⟩ : ∃ x, x = r[k].toNat := ⟨_, rfl⟩
      have hx256 : x < 256 := by rw [hx]; exact r[k].toNat_lt
      rw [← hx] at hck
      rw [List.drop_eq_getElem_cons hlt, tkGo, ← hx] at htk
      have HTK := Lib.hid htk; clear htk hx
      have HACC := Lib.hid hacc; clear hacc
      have hfin : ∀ z, tkGo 0 0 r = z → q = z.map fun p => (p.1, i + p.2) := by rintro z rfl; exact HQ.out
      have HF := Lib.hid hfin; clear hfin
      by_cases h9 : k = 9 ∧ 1 < x
      · have e1 : ((k : Int) == 9) = true := by rw [beq_iff_eq]; omega
        have e2 : decide (1 < (x : Int)) = true := by simp; omega
        have hres := HTK.out
        rw [if_neg (by omega), if_pos h9] at hres
        have hq3 := HF.out _ hres.symm
        obtain rfl : q = none := hq3
        clear hres h9 HQ HF HTK
        go_wp2
        go_ret3
        exact ⟨rfl, rfl⟩
      have e9 : (((k : Int) == 9) && decide (1 < (x : Int))) = false := by
        rw [Bool.and_eq_false_iff, beq_eq_false_iff_ne, decide_eq_false_iff_not]
        omega
      by_cases h128 : 128 ≤ x
      · have hres := HTK.out
        rw [if_neg (by omega), if_neg h9, if_pos h128] at hres
        have HRES := Lib.hid hres; clear hres
        by_cases hk9 : k = 9
        · have e1 : ((k : Int) == 9) = true := by rw [beq_iff_eq]; omega
          omega
        · have e1 : ((k : Int) == 9) = false := by rw [beq_eq_false_iff_ne]; omega
          clear h9 HTK e9
          go_wp2
          obtain ⟨o1, o2, o3⟩ := tk_or k acc x (by omega) HACC.out hx256 (by omega)
          go_round
          case rel => exact ⟨k + 1, acc + x % 128 * 128 ^ k, by omega, by go_num, by rw [o1], o2, HRES.out⟩
          case measure => simp [intOf]; omega
      · by_cases h0 : 0 < k ∧ x = 0
        · have hres := HTK.out
          rw [if_neg (by omega), if_neg h9, if_neg h128, if_pos h0] at hres
          obtain rfl : q = none := HF.out _ hres.symm
          have e1 : ((x : Int) == 0) = true := by rw [beq_iff_eq]; omega
          have e2 : decide (1 < (x : Int)) = false := by simp; omega
          have e3 : 0 < k := h0.1
          clear h9 hres h0 HTK e9 HF HQ
          by_cases hk9 : k = 9
          · have e9 : ((k : Int) == 9) = true := by rw [beq_iff_eq]; omega
            clear hk9
            go_wp2
            go_ret3
            exact ⟨rfl, rfl⟩
          · have e9 : ((k : Int) == 9) = false := by rw [beq_eq_false_iff_ne]; omega
            clear hk9
            go_wp2
            go_ret3
            exact ⟨rfl, rfl⟩
        · have hres := HTK.out
          rw [if_neg (by omega), if_neg h9, if_neg h128, if_neg h0] at hres
          obtain rfl : q = _ := HF.out _ hres.symm
          have hn : k < 10 := by omega
          have HX : k = 9 → x ≤ 1 := by omega
          have HX' := Lib.hid HX
          have ho := (tk_or k acc x (by omega) HACC.out hx256 HX).1
          have HOR := Lib.hid ho
          by_cases hk9 : k = 9
          · have e9' : ((k : Int) == 9) = true := by rw [beq_iff_eq]; omega
            have e2 : decide (1 < (x : Int)) = false := by simp; omega
            have e3 : 0 < k := by omega
            have e1 : ((x : Int) == 0) = false := by rw [beq_eq_false_iff_ne]; omega
            clear hres HTK e9 HF HQ HX h9 h0 hk9 ho
            go_wp2
            go_ret3
            refine ⟨?_, rfl⟩
            rw [HOR.out]
            simp [tkVal, Int.add_assoc]
          · have e9' : ((k : Int) == 9) = false := by rw [beq_eq_false_iff_ne]; omega
            by_cases hk0 : 0 < k
            · have e1 : ((x : Int) == 0) = false := by rw [beq_eq_false_iff_ne]; omega
              clear hres HTK e9 HF HQ HX h9 h0 hk9 ho
              go_wp2
              go_ret3
              refine ⟨?_, rfl⟩
              rw [HOR.out]
              simp [tkVal, Int.add_assoc]
            · have e1 : decide (0 < (k : Int)) = false := by simp; omega
              clear hres HTK e9 HF HQ HX h9 h0 hk9 ho
              go_wp2
              go_ret3
              refine ⟨?_, rfl⟩
              rw [HOR.out]
              simp [tkVal, Int.add_assoc]
    · have hnone : tkGo k acc (r.drop k) = none := by rw [List.drop_eq_nil_of_le (by omega)]; rfl
      rw [hnone] at htk
      obtain rfl : q = none := by rw [HQ.out, ← htk]; rfl
      clear htk hnone HQ
      go_wp2
      go_ret3
      exact ⟨rfl, rfl⟩
end Go.Proofs.Ytggjipfdfpdecaa

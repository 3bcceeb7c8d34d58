/- The walks of the small functions of layer 4: numbers as bytes, the lowest first, and how many blocks a frame has. -/
import Derived.Test.YtggjipfdfpdecaaCuts
import Derived.Test.YtggjipfdfpdecaaFrP
namespace Go.Proofs.Ytggjipfdfpdecaa
open Go.RowKit

theorem u8_mod (m : Nat) : Value.int .u8 ((m : Int) % 256) = bv (UInt8.ofNat (m % 256)) := by
  have h : ((m : Int) % 256) = ((m % 256 : Nat) : Int) := by omega
  rw [h]
  exact bv_of _ (by omega)

set_option maxRecDepth 100000 in
set_option maxHeartbeats 400000 in
theorem fnumber_any (base : Nat) (v : Value) (l : List UInt8) (n size : Nat) (w : World) (hs : size ≤ 8) (hl : l.length + 8 ≤ 140737488355328) (hbase : base ≤ w.heap.size) (hown : Own w base v l) :
    Calls Try.prog 75 #[v, .int .u64 n, .int .i64 size] w fun e w' => ∃ v', e = .returned v' ∧ Own w' base v' (l ++ le n size) ∧ Below base w w' := by
  have HL := Lib.hid hl; clear hl
  go_enter Try.func75, Try.ntmps75
  go_wp2
  go_loopw [0, 1, 8] (fun v0 v1 v8 wr => ∃ (j m : Nat) (l1 : List UInt8), j ≤ size ∧ v8 = .int .i64 j ∧ v1 = .int .u64 m ∧ l1 ++ le m (size - j) = l ++ le n size ∧ Own wr base v0 l1 ∧ Below base w wr) (fun _ _ v8 _ => size - (intOf v8).toNat)
  case atStart => exact ⟨0, n, l, by omega, rfl, rfl, rfl, hown, Below.refl _ _⟩
  case round =>
    obtain ⟨j, m, l1, hj, rfl, rfl, heq, ho, hb⟩ := hrel
    have hlen : l1.length + 1 ≤ 140737488355328 ∨ ¬ j < size := by
      have h1 := congrArg List.length heq
      rw [List.length_append, List.length_append, le_len, le_len] at h1
      have := HL.out
      omega
    have HLen := Lib.hid hlen; clear hlen
    have HE := Lib.hid heq; clear heq
    have HO := Lib.hid ho; clear ho
    have HB := Lib.hid hb; clear hb
    by_cases h : j < size
    · go_wp2_with (at_builtin; refine own_append1 base rfl (.tmp 10) (.tmp 13) rfl _ l1 (UInt8.ofNat (m % 256)) _ ?hy rfl rfl HO.out ?hb ?hl ?_; (case hy => exact u8_mod m); (case hb => exact Nat.le_trans hbase HB.out.size); (case hl => have := HLen.out; omega); intro v1 w1 hown hb1 hg hat)
      have e := HE.out
      rw [show size - j = (size - (j + 1)) + 1 from by omega, le] at e
      go_roundw
      case rel => exact ⟨j + 1, m / 256, l1 ++ [UInt8.ofNat (m % 256)], by omega, by go_num, by simp, by rw [← e]; simp, hown, HB.out.trans hb1⟩
      case measure => simp [intOf]; omega
    · obtain rfl : j = size := by omega
      obtain ⟨A0, c0, rfl, _⟩ := HO.out.rd
      have e := HE.out
      rw [Nat.sub_self, le, List.append_nil] at e
      subst e
      go_wp2
      go_ret
      exact ⟨_, rfl, HO.out, HB.out⟩

theorem tl_or (k acc x : Nat) (hk : k ≤ 7) (hacc : acc < 256 ^ k) (hx : x < 256) :
    bits .or .u64 (acc : Int) (IntKind.u64.wrap ((x : Int) * 2 ^ (8 * k))) = ((acc + 256 ^ k * x : Nat) : Int) ∧ acc + 256 ^ k * x < 256 ^ (k + 1) := by
  have hp : 256 ^ k = 2 ^ (8 * k) := by rw [Nat.pow_mul]
  have h1 : acc + 256 ^ k * x < 256 ^ (k + 1) := by
    rw [Nat.pow_succ]
    have := Nat.mul_le_mul_left (256 ^ k) (show x ≤ 255 by omega)
    omega
  have h2 : 256 ^ (k + 1) ≤ 256 ^ 8 := Nat.pow_le_pow_right (by omega) (by omega)
  refine ⟨?_, h1⟩
  have h3 : (x : Int) * 2 ^ (8 * k) = ((256 ^ k * x : Nat) : Int) := by
    rw [hp]
    simp [Int.mul_comm]
  have h4 : IntKind.u64.wrap ((256 ^ k * x : Nat) : Int) = ((256 ^ k * x : Nat) : Int) := by
    generalize 256 ^ k * x = z at *
    rw [IntKind.wrap_u64, Int.emod_eq_of_lt (by omega) (by omega)]
  rw [h3, h4, u64_or_nat _ _ (by omega) (by omega)]
  congr 1
  rw [hp] at hacc ⊢
  rw [Nat.or_comm, ← Nat.two_pow_add_eq_or_of_lt hacc]
  omega

set_option maxRecDepth 100000 in
set_option maxHeartbeats 400000 in
theorem told_any (v : Value) (l : List UInt8) (w : World) (hr : RdB w v l) (hl : l.length ≤ 8) :
    Calls Try.prog 77 #[v] w fun e w' => e = .returned (.int .u64 (unle l : Nat)) ∧ w = w' := by
  obtain ⟨A, c, rfl, hc1, hc2, hcell⟩ := id hr
  have HC := Lib.hid hcell; clear hcell hr hc1 hc2
  go_enter Try.func77, Try.ntmps77
  go_wp2
  go_loop [3, 8] (fun n i => ∃ k acc : Nat, k ≤ l.length ∧ i = .int .i64 k ∧ n = .int .u64 acc ∧ acc = unle (l.take k)) (fun _ i => l.length - (intOf i).toNat)
  case atStart => exact ⟨0, 0, by omega, rfl, rfl, rfl⟩
  case round =>
    obtain ⟨k, acc, hk, rfl, rfl, hacc⟩ := hrel
    have HA := Lib.hid hacc; clear hacc
    by_cases hlt : k < l.length
    · obtain ⟨ad, rfl, hcells⟩ := HC.out (by omega)
      have hck := hcells k hlt
      rw [bv_nat] at hck
      clear hcells
      obtain ⟨x, hx⟩ : ∃ x, x = l[k].toNat := ⟨_, rfl⟩
      have hx256 : x < 256 := by rw [hx]; exact l[k].toNat_lt
      rw [← hx] at hck
      have hnext : unle (l.take (k + 1)) = unle (l.take k) + 256 ^ k * x := by
        rw [List.take_succ_eq_append_getElem hlt, unle_append, List.length_take, Nat.min_eq_left (by omega)]
        simp [unle, hx]
      have hb := unle_lt (l.take k)
      rw [List.length_take, Nat.min_eq_left (by omega), ← HA.out] at hb
      rw [← HA.out] at hnext
      obtain ⟨ho1, ho2⟩ := tl_or k acc x (by omega) hb hx256
      have HN := Lib.hid hnext; clear hnext hx hb ho2
      have HOR := Lib.hid ho1; clear ho1
      go_wp2
      go_round
      case rel => exact ⟨k + 1, acc + 256 ^ k * x, by omega, by go_num, by rw [HOR.out], HN.out.symm⟩
      case measure => simp [intOf]; omega
    · obtain rfl : k = l.length := by omega
      go_wp2
      go_ret
      have e := HA.out
      rw [List.take_length] at e
      subst e
      exact ⟨rfl, rfl⟩

set_option maxHeartbeats 400000 in
theorem blocks_any (n : Nat) (w : World) (hn : n ≤ 4294967296) :
    Calls Try.prog 78 #[.int .i64 n] w fun e w' => e = .returned (.int .i64 (bl n : Nat)) ∧ w = w' := by
  go_enter Try.func78, Try.ntmps78
  go_wp2
  go_ret
  refine ⟨?_, rfl⟩
  unfold bl
  simp
  omega

set_option maxRecDepth 100000 in
set_option maxHeartbeats 400000 in
theorem rnumber_any (n size : Nat) (w : World) (hs : size ≤ 8) (hn : n < 18446744073709551616) :
    Calls Try.prog 120 #[.int .u64 n, .int .i64 size] w fun e w' => ∃ v', e = .returned v' ∧ Own w' w.heap.size v' (le n size) ∧ Below w.heap.size w w' := by
  have HN := Lib.hid hn; clear hn
  go_enter Try.func120, Try.ntmps120
  go_wp2
  go_loopw [0, 5, 6] (fun v1 v0 v8 wr => ∃ (j m : Nat) (l1 : List UInt8), j ≤ size ∧ v8 = .int .i64 j ∧ v1 = .int .u64 m ∧ m ≤ n ∧ l1 ++ le m (size - j) = le n size ∧ Own wr w.heap.size v0 l1 ∧ Below w.heap.size w wr) (fun _ _ v8 _ => size - (intOf v8).toNat)
  case atStart => exact ⟨0, n, [], by omega, rfl, rfl, Nat.le_refl _, rfl, Own.nil _ _, Below.refl _ _⟩
  case round =>
    obtain ⟨j, m, l1, hj, rfl, rfl, hm, heq, ho, hb⟩ := hrel
    have hlen : l1.length + 1 ≤ 140737488355328 := by
      have h1 := congrArg List.length heq
      rw [List.length_append, le_len, le_len] at h1
      omega
    have HLen := Lib.hid hlen; clear hlen
    have HE := Lib.hid heq; clear heq
    have HO := Lib.hid ho; clear ho
    have HB := Lib.hid hb; clear hb
    by_cases h : j < size
    · have hwd : IntKind.u64.wrap ((m : Int) / 256) = (m : Int) / 256 := by have := HN.out; rw [IntKind.wrap_u64, Int.emod_eq_of_lt (by omega) (by omega)]
      go_wp2_with (at_builtin; refine own_append1 w.heap.size rfl (.tmp 12) (.tmp 16) rfl _ l1 (UInt8.ofNat (m % 256)) _ ?hy rfl rfl HO.out ?hb ?hl ?_; (case hy => exact u8_mod m); (case hb => exact HB.out.size); (case hl => exact HLen.out); intro v1 w1 hown hb1 hg hat)
      have e := HE.out
      rw [show size - j = (size - (j + 1)) + 1 from by omega, le] at e
      go_roundw
      case rel => exact ⟨j + 1, m / 256, l1 ++ [UInt8.ofNat (m % 256)], by omega, by go_num, by simp, by omega, by rw [← e]; simp, hown, HB.out.trans hb1⟩
      case measure => simp [intOf]; omega
    · obtain rfl : j = size := by omega
      obtain ⟨A0, c0, rfl, _⟩ := HO.out.rd
      have e := HE.out
      rw [Nat.sub_self, le, List.append_nil] at e
      subst e
      go_wp2
      go_ret
      exact ⟨_, rfl, HO.out, HB.out⟩

set_option maxRecDepth 100000 in
set_option maxHeartbeats 400000 in
theorem value_any (v : Value) (l : List UInt8) (w : World) (hr : RdB w v l) (hl : l.length ≤ 8) :
    Calls Try.prog 81 #[v] w fun e w' => e = .returned (.int .u64 (unle l : Nat)) ∧ w = w' := by
  obtain ⟨A, c, rfl, hc1, hc2, hcell⟩ := id hr
  have HC := Lib.hid hcell; clear hcell hr hc1 hc2
  go_enter Try.func81, Try.ntmps81
  go_wp2
  go_loop [3, 4] (fun n i => ∃ k acc : Nat, k ≤ l.length ∧ i = .int .i64 ((k : Int) - 1) ∧ n = .int .u64 acc ∧ acc = unle (l.drop k)) (fun _ i => (intOf i + 1).toNat)
  case atStart => exact ⟨l.length, 0, by omega, rfl, rfl, by rw [List.drop_length]; rfl⟩
  case round =>
    obtain ⟨k, acc, hk, rfl, rfl, hacc⟩ := hrel
    have HA := Lib.hid hacc; clear hacc
    rcases k with _ | k
    · go_wp2
      go_ret
      have e := HA.out
      rw [List.drop_zero] at e
      subst e
      exact ⟨rfl, rfl⟩
    · have hlt : k < l.length := by omega
      obtain ⟨ad, rfl, hcells⟩ := HC.out (by omega)
      have hck := hcells k hlt
      rw [bv_nat] at hck
      clear hcells
      obtain ⟨x, hx⟩ : ∃ x, x = l[k].toNat := ⟨_, rfl⟩
      have hx256 : x < 256 := by rw [hx]; exact l[k].toNat_lt
      rw [← hx] at hck
      have hnext : unle (l.drop k) = x + 256 * acc := by
        rw [List.drop_eq_getElem_cons hlt, unle, ← hx, HA.out]
      have hb := unle_lt (l.drop k)
      have hp : 256 ^ (l.drop k).length ≤ 256 ^ 8 := Nat.pow_le_pow_right (by omega) (by rw [List.length_drop]; omega)
      have hb8 : x + 256 * acc < 256 ^ 8 := by rw [← hnext]; omega
      have hw1 : IntKind.u64.wrap ((acc : Int) * 256) = (acc : Int) * 256 := by rw [IntKind.wrap_u64, Int.emod_eq_of_lt (by omega) (by omega)]
      have hw2 : IntKind.u64.wrap ((acc : Int) * 256 + (x : Int)) = (acc : Int) * 256 + (x : Int) := by rw [IntKind.wrap_u64, Int.emod_eq_of_lt (by omega) (by omega)]
      have HN := Lib.hid hnext; clear hnext hx hb hp
      have HB := Lib.hid hb8; clear hb8
      rw [show (((k + 1 : Nat) : Int) - 1) = (k : Int) from by omega]
      go_wp2
      go_round
      case rel => exact ⟨k, x + 256 * acc, by omega, by simp, by simp; omega, HN.out.symm⟩
      case measure => simp [intOf]
end Go.Proofs.Ytggjipfdfpdecaa

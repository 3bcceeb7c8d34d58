/- The walks of num.number, slices.Clone, num.Put, num.PutText: they lay a number's, a text's bytes behind a copy of what came in. -/
import Derived.Test.YtggjipfdfpdecaaBase
import Derived.Test.YtggjipfdfpdecaaPlain
namespace Go.Proofs.Ytggjipfdfpdecaa
open Go.RowKit

theorem or128 (k : Nat) : Value.int .u8 (bits .or .u8 ((k : Int) % 256) 128) = bv (UInt8.ofNat (k % 128 + 128)) := by
  have h : ((k : Int) % 256) = ((k % 256 : Nat) : Int) := by omega
  rw [h]
  have := u8_or_nat (k % 256) 128 (by omega) (by omega)
  have e : k % 256 ||| 128 = k % 128 + 128 := by
    have hk : k % 256 < 256 := by omega
    have hm : k % 128 = (k % 256) % 128 := by omega
    rw [hm]
    generalize k % 256 = j at hk
    revert j
    decide +kernel
  rw [e] at this
  rw [show (128 : Int) = ((128 : Nat) : Int) from rfl, this]
  exact bv_of _ (by omega)

set_option maxRecDepth 100000 in
set_option maxHeartbeats 400000 in
theorem number_any (base : Nat) (v : Value) (l : List UInt8) (n : Nat) (w : World) (hn : n < 18446744073709551616) (hl : l.length + 10 ≤ 140737488355328) (hbase : base ≤ w.heap.size) (hown : Own w base v l) :
    Calls Try.prog 71 #[v, .int .u64 n] w fun e w' => ∃ v', e = .returned v' ∧ Own w' base v' (l ++ uvar n) ∧ Below base w w' := by
  have HN := Lib.hid hn; clear hn
  have HL := Lib.hid hl; clear hl
  go_enter Try.func71, Try.ntmps71
  go_wp2
  go_loopw [0, 1] (fun v0 v1 wr => ∃ (k : Nat) (l1 : List UInt8), v1 = .int .u64 k ∧ k ≤ n ∧ l1 ++ uvar k = l ++ uvar n ∧ Own wr base v0 l1 ∧ Below base w wr) (fun _ v1 _ => (intOf v1).toNat)
  case atStart => exact ⟨n, l, rfl, Nat.le_refl _, rfl, hown, Below.refl _ _⟩
  case round =>
    obtain ⟨k, l1, rfl, hk, heq, ho, hb⟩ := hrel
    have hlen : l1.length + 1 ≤ 140737488355328 := by
      have h1 := congrArg List.length heq
      rw [List.length_append, List.length_append] at h1
      have := uvar_len10 HN.out
      have := uvar_pos k
      have := HL.out
      omega
    have HLen := Lib.hid hlen; clear hlen
    have HE := Lib.hid heq; clear heq
    have HO := Lib.hid ho; clear ho
    have HB := Lib.hid hb; clear hb
    by_cases h : k < 128
    · go_wp2_with (at_builtin; refine own_append1 base rfl (.tmp 15) (.tmp 18) rfl _ l1 (UInt8.ofNat k) _ ?hy rfl rfl HO.out ?hb ?hl ?_; (case hy => exact bv_of _ (by omega)); (case hb => exact Nat.le_trans hbase HB.out.size); (case hl => exact HLen.out); intro v1 w1 hown hb1 hg hat)
      go_ret
      have e := HE.out
      rw [uvar_lt h] at e
      exact ⟨v1, rfl, by rw [← e]; exact hown, HB.out.trans hb1⟩
    · go_wp2_with (at_builtin; refine own_append1 base rfl (.tmp 7) (.tmp 11) rfl _ l1 (UInt8.ofNat (k % 128 + 128)) _ ?hy rfl rfl HO.out ?hb ?hl ?_; (case hy => exact or128 k); (case hb => exact Nat.le_trans hbase HB.out.size); (case hl => exact HLen.out); intro v1 w1 hown hb1 hg hat)
      have e := HE.out
      rw [uvar_ge h] at e
      go_roundw
      case rel => exact ⟨k / 128, l1 ++ [UInt8.ofNat (k % 128 + 128)], by simp, by omega, by rw [← e]; simp, hown, HB.out.trans hb1⟩
      case measure => simp [intOf]; omega

theorem RdB.none {w : World} {n c : Nat} {l : List UInt8} (h : RdB w (.slice .none n c) l) : l = [] := by
  obtain ⟨A, c', hv, _, _, h3⟩ := h
  rcases l with _ | ⟨x, l⟩
  · rfl
  · obtain ⟨ad, hA, _⟩ := h3 (by simp)
    subst hA
    cases hv

set_option maxHeartbeats 400000 in
theorem clone_any (v : Value) (l : List UInt8) (w : World) (hr : RdB w v l) (hl : l.length ≤ 140737488355328) :
    Calls Try.prog 72 #[v] w fun e w' => ∃ v', e = .returned v' ∧ Own w' w.heap.size v' l ∧ Below w.heap.size w w' := by
  have hr0 := hr
  obtain ⟨A, c, rfl, _⟩ := hr0
  have HL := Lib.hid hl; clear hl
  have HR := Lib.hid hr; clear hr
  cases A with
  | none =>
    have hq := fun W : World => Lib.run_eql_slice_nil (P := Try.prog) W 25 5 none l.length c 0 0 Try.underlying25
    go_enter Try.func72, Try.ntmps72
    go_wp2
    go_ret
    obtain rfl := HR.out.none
    exact ⟨_, rfl, Own.nil _ _, Below.refl _ _⟩
  | some ad =>
    have hq := fun W : World => Lib.run_eql_slice_nil (P := Try.prog) W 25 5 (some ad) l.length c 0 0 Try.underlying25
    have hz : RdB (w.alloc (.cells #[] 5)) (.slice (some ad) l.length c) l := HR.out.below ((Below.refl _ _).alloc (Nat.le_refl _) _)
    have ho : Own (w.alloc (.cells #[] 5)) w.heap.size (.slice (some ⟨w.heap.size, 0, none⟩) 0 0) [] := World.ownsRow_made w #[] 0 (Nat.le_refl _) (by simp [maxLen]) (by simp)
    have HZ := Lib.hid hz; clear hz
    have HO := Lib.hid ho; clear ho
    go_enter Try.func72, Try.ntmps72
    go_wp2_with (at_builtin; refine own_append_row w.heap.size rfl (.tmp 5) (.tmp 6) rfl _ _ [] l rfl rfl HO.out HZ.out ?hb ?hl ?_; (case hb => simp); (case hl => have := HL.out; simp; omega); intro v1 w1 hown hb1 hg hat)
    go_ret
    exact ⟨_, rfl, hown, ((Below.refl w.heap.size w).alloc (Nat.le_refl _) _).trans hb1⟩

set_option maxHeartbeats 400000 in
theorem put_any (v : Value) (l : List UInt8) (n : Nat) (w : World) (hr : RdB w v l) (hn : n < 18446744073709551616) (hl : l.length + 10 ≤ 140737488355328) :
    Calls Try.prog 26 #[v, .int .u64 n] w fun e w' => ∃ v', e = .returned v' ∧ Own w' w.heap.size v' (l ++ uvar n) ∧ Below w.heap.size w w' := by
  have HN := Lib.hid hn; clear hn
  have HL := Lib.hid hl; clear hl
  have HR := Lib.hid hr; clear hr
  go_enter Try.func26, Try.ntmps26
  go_wp2_with fail
  refine (clone_any v l _ HR.out (by have := HL.out; omega)).mono ?_
  rintro e w1 ⟨v1, rfl, ho1, hb1⟩
  have HO1 := Lib.hid ho1; clear ho1
  have HB1 := Lib.hid hb1; clear hb1
  go_wp2_with fail
  refine (number_any w.heap.size v1 l n _ HN.out HL.out HB1.out.size HO1.out).mono ?_
  rintro e w2 ⟨v2, rfl, ho2, hb2⟩
  have HO2 := Lib.hid ho2; clear ho2
  have HB2 := Lib.hid hb2; clear hb2
  go_wp2_with fail
  go_ret
  exact ⟨_, rfl, HO2.out, HB1.out.trans HB2.out⟩

set_option maxHeartbeats 400000 in
theorem putText_any (v : Value) (l : List UInt8) (s : ByteArray) (w : World) (hr : RdB w v l) (hl : l.length + s.size + 10 ≤ 140737488355328) :
    Calls Try.prog 28 #[v, .string s] w fun e w' => ∃ v', e = .returned v' ∧ Own w' w.heap.size v' (l ++ uvar s.size ++ s.data.toList) ∧ Below w.heap.size w w' := by
  have hs : s.size ≤ 140737488355328 := by omega
  have HL := Lib.hid hl; clear hl
  have HR := Lib.hid hr; clear hr
  go_enter Try.func28, Try.ntmps28
  go_wp2_with fail
  refine (clone_any v l _ HR.out (by have := HL.out; omega)).mono ?_
  rintro e w1 ⟨v1, rfl, ho1, hb1⟩
  have HO1 := Lib.hid ho1; clear ho1
  have HB1 := Lib.hid hb1; clear hb1
  go_wp2_with fail
  refine (number_any w.heap.size v1 l s.size _ (by omega) (by have := HL.out; omega) HB1.out.size HO1.out).mono ?_
  rintro e w2 ⟨v2, rfl, ho2, hb2⟩
  have HO2 := Lib.hid ho2; clear ho2
  have HB2 := Lib.hid hb2; clear hb2
  go_wp2_with (at_builtin; refine own_append_str w.heap.size rfl (.tmp 10) (.tmp 11) rfl _ (l ++ uvar s.size) s rfl rfl HO2.out ?hb ?hl ?_; (case hb => exact Nat.le_trans HB1.out.size HB2.out.size); (case hl => have h1 := HL.out; have h2 := uvar_len10 (n := s.size) (by omega); simp; omega); intro v3 w3 hown hb3 hg)
  go_ret
  exact ⟨_, rfl, hown, (HB1.out.trans HB2.out).trans hb3⟩
end Go.Proofs.Ytggjipfdfpdecaa

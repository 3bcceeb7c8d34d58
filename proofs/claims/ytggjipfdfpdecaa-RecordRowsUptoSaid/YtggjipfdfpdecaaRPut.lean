/- The walks of varveref01's Number, Put, PutText: what the document lays behind bytes. -/
import Derived.Test.YtggjipfdfpdecaaNumA
namespace Go.Proofs.Ytggjipfdfpdecaa
open Go.RowKit

theorem add128 (k : Nat) : Value.int .u8 (((k : Int) % 128 + 128)) = bv (UInt8.ofNat (k % 128 + 128)) := by
  have h : ((k : Int) % 128 + 128) = ((k % 128 + 128 : Nat) : Int) := by omega
  rw [h]
  exact bv_of _ (by omega)

set_option maxRecDepth 100000 in
set_option maxHeartbeats 400000 in
theorem refNumber_any (n : Nat) (w : World) (hn : n < 18446744073709551616) :
    Calls Try.prog 73 #[.int .u64 n] w fun e w' => ∃ v', e = .returned v' ∧ Own w' w.heap.size v' (uvar n) ∧ Below w.heap.size w w' := by
  have HN := Lib.hid hn; clear hn
  go_enter Try.func73, Try.ntmps73
  go_wp2
  go_loopw [3, 0] (fun v0 v1 wr => ∃ (k : Nat) (l1 : List UInt8), v1 = .int .u64 k ∧ k ≤ n ∧ l1 ++ uvar k = uvar n ∧ Own wr w.heap.size v0 l1 ∧ Below w.heap.size w wr) (fun _ v1 _ => (intOf v1).toNat)
  case atStart => exact ⟨n, [], rfl, Nat.le_refl _, rfl, Own.nil _ _, Below.refl _ _⟩
  case round =>
    obtain ⟨k, l1, rfl, hk, heq, ho, hb⟩ := hrel
    have hlen : l1.length + 1 ≤ 140737488355328 := by
      have h1 := congrArg List.length heq
      rw [List.length_append] at h1
      have := uvar_len10 HN.out
      omega
    have HLen := Lib.hid hlen; clear hlen
    have HE := Lib.hid heq; clear heq
    have HO := Lib.hid ho; clear ho
    have HB := Lib.hid hb; clear hb
    by_cases h : k < 128
    · go_wp2_with (at_builtin; refine own_append1 w.heap.size rfl (.tmp 15) (.tmp 18) rfl _ l1 (UInt8.ofNat k) _ ?hy rfl rfl HO.out ?hb ?hl ?_; (case hy => exact bv_of _ (by omega)); (case hb => exact HB.out.size); (case hl => exact HLen.out); intro v1 w1 hown hb1 hg hat)
      go_ret
      have e := HE.out
      rw [uvar_lt h] at e
      exact ⟨v1, rfl, by rw [← e]; exact hown, HB.out.trans hb1⟩
    · have hwd : IntKind.u64.wrap ((k : Int) / 128) = (k : Int) / 128 := by have := HN.out; rw [IntKind.wrap_u64, Int.emod_eq_of_lt (by omega) (by omega)]
      go_wp2_with (at_builtin; refine own_append1 w.heap.size rfl (.tmp 6) (.tmp 11) rfl _ l1 (UInt8.ofNat (k % 128 + 128)) _ ?hy rfl rfl HO.out ?hb ?hl ?_; (case hy => first | exact add128 k | (rw [← add128 k]; congr 1; simp; omega)); (case hb => exact HB.out.size); (case hl => exact HLen.out); intro v1 w1 hown hb1 hg hat)
      have e := HE.out
      rw [uvar_ge h] at e
      go_roundw
      case rel => exact ⟨k / 128, l1 ++ [UInt8.ofNat (k % 128 + 128)], by simp, by omega, by rw [← e]; simp, hown, HB.out.trans hb1⟩
      case measure => simp [intOf]; omega

set_option maxHeartbeats 400000 in
theorem refPut_any (v : Value) (l : List UInt8) (n : Nat) (w : World) (hr : RdB w v l) (hn : n < 18446744073709551616) (hl : l.length + 10 ≤ 140737488355328) :
    Calls Try.prog 29 #[v, .int .u64 n] w fun e w' => ∃ v', e = .returned v' ∧ Own w' w.heap.size v' (l ++ uvar n) ∧ Below w.heap.size w w' := by
  have HN := Lib.hid hn; clear hn
  have HL := Lib.hid hl; clear hl
  have HR := Lib.hid hr; clear hr
  have ho0 : Own w w.heap.size (.slice none 0 0) [] := Own.nil _ _
  have HO0 := Lib.hid ho0; clear ho0
  go_enter Try.func29, Try.ntmps29
  go_wp2_with (at_builtin; refine own_append_row w.heap.size rfl (.tmp 6) (.tmp 7) rfl _ _ [] l rfl rfl HO0.out HR.out ?hb ?hl ?_; (case hb => exact Nat.le_refl _); (case hl => have := HL.out; simp; omega); intro v1 w1 hown hb1 hg hat; simp only [List.nil_append] at hown; have HO1 := Lib.hid hown; clear hown; have HB1 := Lib.hid hb1; clear hb1 hg hat)
  refine (refNumber_any n _ HN.out).mono ?_
  rintro e w2 ⟨v2, rfl, ho2, hb2⟩
  have ho1' := HO1.out.below hb2
  have hlen := uvar_len10 HN.out
  have HLN := Lib.hid hlen; clear hlen
  have HO2 := Lib.hid ho2; clear ho2
  have HB2 := Lib.hid (hb2.mono HB1.out.size); clear hb2
  have HO1' := Lib.hid ho1'; clear ho1'
  go_wp2_with (at_builtin; refine own_append_row w.heap.size rfl (.tmp 9) (.tmp 11) rfl _ _ l (uvar n) rfl rfl HO1'.out HO2.out.rd ?hb2 ?hl2 ?_; (case hb2 => exact Nat.le_trans HB1.out.size HB2.out.size); (case hl2 => have := HL.out; have := HLN.out; omega); intro v3 w3 hown hb3 hg hat)
  go_ret
  exact ⟨_, rfl, hown, (HB1.out.trans HB2.out).trans hb3⟩

set_option maxHeartbeats 400000 in
theorem refPutText_any (v : Value) (l : List UInt8) (s : ByteArray) (w : World) (hr : RdB w v l) (hl : l.length + s.size + 10 ≤ 140737488355328) :
    Calls Try.prog 30 #[v, .string s] w fun e w' => ∃ v', e = .returned v' ∧ Own w' w.heap.size v' (l ++ uvar s.size ++ s.data.toList) ∧ Below w.heap.size w w' := by
  have hs : s.size ≤ 140737488355328 := by omega
  have HL := Lib.hid hl; clear hl
  have HR := Lib.hid hr; clear hr
  go_enter Try.func30, Try.ntmps30
  go_wp2_with fail
  refine (refPut_any v l s.size _ HR.out (by omega) (by have := HL.out; omega)).mono ?_
  rintro e w2 ⟨v2, rfl, ho2, hb2⟩
  have HO2 := Lib.hid ho2; clear ho2
  have HB2 := Lib.hid hb2; clear hb2
  go_wp2_with (at_builtin; refine own_append_str w.heap.size rfl (.tmp 11) (.tmp 12) rfl _ (l ++ uvar s.size) s rfl rfl HO2.out ?hb ?hl ?_; (case hb => exact HB2.out.size); (case hl => have h1 := HL.out; have h2 := uvar_len10 (n := s.size) (by omega); simp; omega); intro v3 w3 hown hb3 hg)
  go_ret
  exact ⟨_, rfl, hown, HB2.out.trans hb3⟩
end Go.Proofs.Ytggjipfdfpdecaa

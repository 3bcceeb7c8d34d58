/- The walks of slices.IndexFunc and ContainsFunc, with frame.Take's own function: is there a byte that is not nothing? -/
import Derived.Test.YtggjipfdfpdecaaFSm
namespace Go.Proofs.Ytggjipfdfpdecaa
open Go.RowKit

theorem any_take (l : List UInt8) (k : Nat) (h : k < l.length) (h0 : ∀ c ∈ l.take k, c = 0) (h1 : l[k] = 0) : ∀ c ∈ l.take (k + 1), c = 0 := by
  intro c hc
  rw [List.take_succ_eq_append_getElem h, List.mem_append] at hc
  rcases hc with hc | hc
  · exact h0 c hc
  · simp at hc; rw [hc, h1]

set_option maxRecDepth 100000 in
set_option maxHeartbeats 1000000 in
theorem indexFunc_any (v : Value) (l : List UInt8) (w : World) (hr : RdB w v l) :
    Calls Try.prog 121 #[v, .func (.func 80) #[] #[]] w fun e w' => ∃ r : Int, e = .returned (.int .i64 r) ∧ (0 ≤ r ↔ ∃ c ∈ l, c ≠ 0) ∧ w = w' := by
  obtain ⟨A, c, rfl, hc1, hc2, hcell⟩ := id hr
  have HC := Lib.hid hcell; clear hcell hr
  simp only [maxLen] at hc2
  go_enter Try.func121, Try.ntmps121
  go_wp2
  go_loop [8] (fun i => ∃ k : Nat, k ≤ l.length ∧ i = .int .i64 k ∧ Hid (∀ c ∈ l.take k, c = 0)) (fun i => l.length - (intOf i).toNat)
  case atStart => exact ⟨0, by omega, rfl, Lib.hid (by simp)⟩
  case round =>
    obtain ⟨k, hk, rfl, hz⟩ := hrel
    by_cases hlt : k < l.length
    · obtain ⟨ad, rfl, hcells⟩ := HC.out (by omega)
      have hck := hcells k hlt
      rw [bv_nat] at hck
      clear hcells
      obtain ⟨x, hx⟩ : ∃ x, x = l[k] := ⟨_, rfl⟩
      rw [← hx] at hck
      have HX := Lib.hid hx; clear hx
      go_wp2_with fail
      refine (isNot_any x.toNat w).mono ?_
      rintro e w' ⟨rfl, rfl⟩
      by_cases h0 : x.toNat = 0
      · have t : decide (x.toNat ≠ 0) = false := by simp [h0]
        have h0' : x = 0 := by apply UInt8.toNat.inj; simpa using h0
        have HX0 := Lib.hid h0'; clear h0 h0'
        rw [t]
        clear t
        go_wp2_with fail
        go_round
        case rel => exact ⟨k + 1, by omega, by go_num, Lib.hid (any_take l k hlt hz.out (by rw [← HX.out, HX0.out]))⟩
        case measure => simp [intOf]; omega
      · have t : decide (x.toNat ≠ 0) = true := by simp [h0]
        have HX0 := Lib.hid h0; clear h0
        rw [t]
        clear t
        go_wp2_with fail
        go_ret
        refine ⟨k, rfl, ⟨fun _ => ⟨x, ?_, ?_⟩, fun _ => by omega⟩, rfl⟩
        · rw [HX.out]; exact List.getElem_mem hlt
        · intro e
          exact HX0.out (by rw [e]; rfl)
    · obtain rfl : k = l.length := by omega
      go_wp2_with fail
      go_ret
      refine ⟨-1, rfl, ⟨fun h => absurd h (by omega), fun ⟨c, hc, hne⟩ => absurd (hz.out c (by rwa [List.take_length])) hne⟩, rfl⟩

set_option maxHeartbeats 400000 in
theorem containsFunc_any (v : Value) (l : List UInt8) (w : World) (hr : RdB w v l) :
    Calls Try.prog 79 #[v, .func (.func 80) #[] #[]] w fun e w' => ∃ r : Bool, e = .returned (.bool r) ∧ (r = true ↔ ∃ c ∈ l, c ≠ 0) ∧ w = w' := by
  obtain ⟨A, c, rfl, _, _, _⟩ := id hr
  have HR := Lib.hid hr; clear hr
  go_enter Try.func79, Try.ntmps79
  go_wp2_with fail
  refine (indexFunc_any _ l w HR.out).mono ?_
  rintro e w' ⟨r, rfl, hr, rfl⟩
  have HRR := Lib.hid hr; clear hr
  go_wp2_with fail
  go_ret
  exact ⟨decide (0 ≤ r), rfl, by rw [decide_eq_true_iff]; exact HRR.out, rfl⟩
end Go.Proofs.Ytggjipfdfpdecaa

/- The walk of the law NumSums: bytes have the sum that the document says, however they are cut into parts. Condition: all the parts together have at most 1048576 bytes. -/
import Derived.Test.YtggjipfdfpdecaaNumC
namespace Go.Proofs.Ytggjipfdfpdecaa
open Go.RowKit

theorem crc_123 : (((crc [49, 50, 51, 52, 53, 54, 55, 56, 57]).toNat : Nat) : Int) = 3421780262 := by decide +kernel

def digits : Array Value := #[.int .u8 49, .int .u8 50, .int .u8 51, .int .u8 52, .int .u8 53, .int .u8 54, .int .u8 55, .int .u8 56, .int .u8 57]
theorem digits_bvs : (bvs [49, 50, 51, 52, 53, 54, 55, 56, 57]).toArray = digits := rfl

theorem crc_lit (w : World) : Calls Try.prog 23 #[.slice (some ⟨w.heap.size + 1, 0, none⟩) 1 1] ((w.alloc (.cells #[.int .u8 49, .int .u8 50, .int .u8 51, .int .u8 52, .int .u8 53, .int .u8 54, .int .u8 55, .int .u8 56, .int .u8 57] 5 (9, 10))).alloc (.cells #[.slice (some ⟨w.heap.size, 0, none⟩) 9 9] 25))
    fun e w' => e = .returned (.int .u32 3421780262) ∧ (w.alloc (.cells #[.int .u8 49, .int .u8 50, .int .u8 51, .int .u8 52, .int .u8 53, .int .u8 54, .int .u8 55, .int .u8 56, .int .u8 57] 5 (9, 10))).alloc (.cells #[.slice (some ⟨w.heap.size, 0, none⟩) 9 9] 25) = w' := by
  have h := crc_one _ _ _ (lit_rd w [49, 50, 51, 52, 53, 54, 55, 56, 57] (9, 10) (by simp [maxLen]))
  rw [crc_123, World.size_alloc] at h
  exact h

set_option maxRecDepth 100000 in
set_option maxHeartbeats 800000 in
theorem numSums_any (v : Value) (ls : List (List UInt8)) (w : World) (hr : RdBs w v ls) (hl : ls.flatten.length + ls.length ≤ 1048576) :
    Calls Try.prog 3 #[v] w fun e w' => e = .returned (.bool true) ∧ Below w.heap.size w w' := by
  have hr0 := hr
  obtain ⟨A, c, rfl, hc1, hc2, _⟩ := hr0
  have hm : ls.length ≤ 9223372036854775807 := by simp only [maxLen] at hc2; omega
  clear hc1 hc2
  have HR := Lib.hid hr; clear hr
  have hl' : ls.flatten.length ≤ 1048576 := by omega
  clear hl
  have HL := Lib.hid hl'; clear hl'
  have kc := fun (w : World) (C : Array Value) (n c : Nat) => Lib.run_convert_bytes_const (P := Try.prog) w 25 5 C n c Try.underlying25 Try.underlying5
  go_enter Try.func3, Try.ntmps3
  go_wp2_with fail
  refine (crc_lit w).mono ?_
  rintro e w' ⟨rfl, rfl⟩
  clear kc
  go_wp2_with fail
  go_loopw [4, 5] (fun v4 v5 wr => ∃ k : Nat, k ≤ ls.length ∧ v5 = .int .i64 k ∧ Own wr w.heap.size v4 (ls.take k).flatten ∧ Below w.heap.size w wr) (fun _ i _ => ls.length - (intOf i).toNat)
  case atStart => exact ⟨0, Nat.zero_le _, rfl, Own.nil _ _, ((Below.refl _ _).alloc (Nat.le_refl _) _).alloc (by simp) _⟩
  case round =>
    obtain ⟨k, hk, rfl, ho, hb⟩ := hrel
    have HO := Lib.hid ho; clear ho
    have HB := Lib.hid hb; clear hb
    by_cases h : k < ls.length
    · obtain ⟨A1, c1, he, _, _, hcell⟩ := HR.out.below HB.out
      obtain ⟨ad, hA, hcells⟩ := hcell (by omega)
      obtain ⟨u, hcu, hru⟩ := hcells k h
      injection he with e1 e2 e3
      subst e1 hA
      clear hcell hcells e2 e3
      have HU := Lib.hid hru; clear hru
      have hlen : (ls.take k).flatten.length + ls[k].length ≤ 1048576 := by
        have := HL.out
        have h1 : ls.flatten.length = (ls.take (k + 1)).flatten.length + (ls.drop (k + 1)).flatten.length := by
          rw [← List.length_append, ← List.flatten_append, List.take_append_drop]
        have h2 : ([ls[k]] : List (List UInt8)).flatten = ls[k] := by simp
        rw [List.take_succ_eq_append_getElem h, List.flatten_append, List.length_append, h2] at h1
        omega
      have HLen := Lib.hid hlen; clear hlen
      go_wp2_with (at_builtin; refine own_append_row w.heap.size rfl (.tmp 19) (.tmp 23) rfl _ _ (ls.take k).flatten ls[k] rfl rfl HO.out HU.out ?hb ?hl ?_; (case hb => exact HB.out.size); (case hl => have := HLen.out; omega); intro v1 w1 hown hb1 hg hat)
      go_roundw
      case rel => exact ⟨k + 1, by omega, by go_num, by rw [List.take_succ_eq_append_getElem h, List.flatten_append]; simpa using hown, HB.out.trans hb1⟩
      case measure => simp [intOf]; omega
    · obtain ⟨l, hl⟩ : ∃ l, (ls.take k).flatten = l := ⟨_, rfl⟩
      have hlf : l = ls.flatten := by rw [← hl, List.take_of_length_le (by omega)]
      have hrd := HO.out.rd
      clear HO
      rw [hl] at hrd
      clear hl
      obtain ⟨A4, c4, rfl, _⟩ := id hrd
      have HRd := Lib.hid hrd; clear hrd
      have HLF := Lib.hid hlf; clear hlf
      go_wp2_with fail
      refine (crc_one _ l _ HRd.out).mono ?_
      rintro e w' ⟨rfl, rfl⟩
      go_wp2_with fail
      have hb2 := HB.out.alloc HB.out.size (.cells #[Value.slice A4 l.length c4] 25)
      have HB2 := Lib.hid hb2; clear hb2
      have hc := crc_any _ ls _ (HR.out.below HB2.out)
      rw [← HLF.out] at hc
      refine hc.mono ?_
      clear hc
      rintro e w' ⟨rfl, rfl⟩
      go_wp2_with fail
      refine (refCrc_any _ l _ (HRd.out.below ((Below.refl _ _).alloc (Nat.le_refl _) _))).mono ?_
      rintro e w' ⟨rfl, rfl⟩
      go_wp2_with fail
      go_ret
      exact ⟨rfl, HB2.out⟩
end Go.Proofs.Ytggjipfdfpdecaa

/- The walks of the two sums, num.Crc and varveref01.Crc. -/
import Derived.Test.YtggjipfdfpdecaaBase
import Derived.Test.YtggjipfdfpdecaaCrc
import Derived.Deep.LoopGhost
namespace Go.Proofs.Ytggjipfdfpdecaa
open Go.RowKit

/-- The value v reads as the rows of bytes ls. -/
def RdBs (w : World) (v : Value) (ls : List (List UInt8)) : Prop :=
  ∃ A c, v = .slice A ls.length c ∧ ls.length ≤ c ∧ c ≤ maxLen ∧ (0 < ls.length → ∃ ad : Addr, A = some ad ∧ ∀ j (h : j < ls.length), ∃ u, w.cell? (ad.add j) = some u ∧ RdB w u ls[j])

theorem u32_ofInt (c : BitVec 32) : BitVec.ofInt 32 (c.toNat : Int) = c := by
  apply BitVec.eq_of_toNat_eq
  simp

theorem u32_xor_bv (c d : BitVec 32) : bits .xor .u32 (c.toNat : Int) (d.toNat : Int) = ((c ^^^ d).toNat : Int) := by
  show IntKind.u32.wrap ((BitVec.ofInt 32 (c.toNat : Int) ^^^ BitVec.ofInt 32 (d.toNat : Int)).toNat : Int) = _
  rw [u32_ofInt, u32_ofInt]
  have := (c ^^^ d).isLt
  rw [IntKind.wrap_u32, Int.emod_eq_of_lt (by omega) (by omega)]

theorem u32_and_bv (c d : BitVec 32) : bits .and .u32 (c.toNat : Int) (d.toNat : Int) = ((c &&& d).toNat : Int) := by
  show IntKind.u32.wrap ((BitVec.ofInt 32 (c.toNat : Int) &&& BitVec.ofInt 32 (d.toNat : Int)).toNat : Int) = _
  rw [u32_ofInt, u32_ofInt]
  have := (c &&& d).isLt
  rw [IntKind.wrap_u32, Int.emod_eq_of_lt (by omega) (by omega)]

theorem crc_half (d : BitVec 32) : ((d.toNat : Int) / (2 : Int)) = ((d >>> 1).toNat : Int) := by
  rw [BitVec.toNat_ushiftRight, Nat.shiftRight_eq_div_pow]
  omega

theorem crc_bit (d : BitVec 32) :
    bits .xor .u32 ((d.toNat : Int) / 2) (bits .and .u32 3988292384 (-bits .and .u32 (d.toNat : Int) 1 % 4294967296)) = ((crcBit d).toNat : Int) := by
  have h1 : bits .and .u32 (d.toNat : Int) 1 = ((d &&& 1#32).toNat : Int) := u32_and_bv d 1#32
  rw [h1, crc_half]
  unfold crcBit
  cases hb : d.getLsbD 0 with
  | false =>
    have hb' : d[0] = false := by simpa using hb
    have h2 : d &&& 1#32 = 0#32 := by
      apply BitVec.eq_of_getLsbD_eq
      intro i hi
      rcases i with _ | i
      · simp [hb']
      · simp
    rw [h2]
    have h3 : bits .and .u32 3988292384 (-((0#32 : BitVec 32).toNat : Int) % 4294967296) = ((0#32 : BitVec 32).toNat : Int) := by decide +kernel
    rw [h3, u32_xor_bv]
    simp
  | true =>
    have hb' : d[0] = true := by simpa using hb
    have h2 : d &&& 1#32 = 1#32 := by
      apply BitVec.eq_of_getLsbD_eq
      intro i hi
      rcases i with _ | i
      · simp [hb']
      · simp
    rw [h2]
    have h3 : bits .and .u32 3988292384 (-((1#32 : BitVec 32).toNat : Int) % 4294967296) = ((crcPoly : BitVec 32).toNat : Int) := by decide +kernel
    rw [h3, u32_xor_bv]
    simp

theorem crc_not (d : BitVec 32) : bits .xor .u32 IntKind.u32.max (d.toNat : Int) = ((~~~d).toNat : Int) := by
  have h : IntKind.u32.max = (((BitVec.allOnes 32).toNat : Nat) : Int) := by decide +kernel
  rw [h, u32_xor_bv, BitVec.allOnes_xor]

theorem u8_ext (b : UInt8) : ((b.toBitVec.zeroExtend 32).toNat) = b.toNat := by
  have := b.toNat_lt
  simp [BitVec.toNat_setWidth]

theorem crc_in (c : BitVec 32) (b : UInt8) : bits .xor .u32 (c.toNat : Int) ((b.toNat : Int) % 4294967296) = ((c ^^^ b.toBitVec.zeroExtend 32).toNat : Int) := by
  rw [← u32_xor_bv, u8_ext]
  have := b.toNat_lt
  rw [Int.emod_eq_of_lt (by omega) (by omega)]

set_option maxRecDepth 100000 in
set_option maxHeartbeats 400000 in
theorem crc_any (v : Value) (ls : List (List UInt8)) (w : World) (hr : RdBs w v ls) :
    Calls Try.prog 23 #[v] w fun e w' => e = .returned (.int .u32 ((crc ls.flatten).toNat : Int)) ∧ w = w' := by
  obtain ⟨A, c, rfl, hc1, hc2, hcell⟩ := hr
  have HC := Lib.hid hcell; clear hcell
  have hm : ls.length ≤ 9223372036854775807 := by simp only [maxLen] at hc2; omega
  clear hc1 hc2
  go_enter Try.func23, Try.ntmps23
  go_wp2
  go_loop [3, 10] (fun c i => ∃ k : Nat, k ≤ ls.length ∧ i = .int .i64 k ∧ c = .int .u32 ((crcGo crcInit (ls.take k).flatten).toNat : Int)) (fun _ i => ls.length - (intOf i).toNat)
  case atStart => exact ⟨0, Nat.zero_le _, rfl, rfl⟩
  case round =>
    obtain ⟨k, hk, rfl, rfl⟩ := hrel
    by_cases h : k < ls.length
    · obtain ⟨ad, hA, hcells⟩ := HC.out (by omega)
      obtain ⟨u, hcu, hru⟩ := hcells k h
      obtain ⟨A', c', hu, hu1, hu2, hucell⟩ := hru
      subst hA hu
      have HU := Lib.hid hucell; clear hucell
      have hm' : ls[k].length ≤ 9223372036854775807 := by simp only [maxLen] at hu2; omega
      clear hu1 hu2
      obtain ⟨c0, hc0⟩ : ∃ c0, c0 = crcGo crcInit (ls.take k).flatten := ⟨_, rfl⟩
      rw [← hc0]
      have HC0 := Lib.hid hc0; clear hc0
      obtain ⟨l, hl⟩ : ∃ l, l = ls[k] := ⟨_, rfl⟩
      rw [← hl] at hcu HU hm'
      have HL := Lib.hid hl; clear hl
      go_wp2
      go_loop [3, 16] (fun c i => ∃ j : Nat, j ≤ l.length ∧ i = .int .i64 j ∧ c = .int .u32 ((crcGo c0 (l.take j)).toNat : Int)) (fun _ i => l.length - (intOf i).toNat)
      case atStart => exact ⟨0, Nat.zero_le _, rfl, rfl⟩
      case round =>
        obtain ⟨j, hj, rfl, rfl⟩ := hrel
        by_cases h2 : j < l.length
        · obtain ⟨ad', hA', hcells'⟩ := HU.out (by omega)
          subst hA'
          have hcj := hcells' j h2
          rw [bv_nat] at hcj
          clear hcells' hcells
          obtain ⟨c1, hc1⟩ : ∃ c1, c1 = crcGo c0 (l.take j) := ⟨_, rfl⟩
          rw [← hc1]
          have HC1 := Lib.hid hc1; clear hc1
          go_wp2
          go_loop [3, 24] (fun c i => ∃ q : Nat, q ≤ 8 ∧ i = .int .i64 q ∧ c = .int .u32 ((crcBits q (c1 ^^^ l[j].toBitVec.zeroExtend 32)).toNat : Int)) (fun _ i => 8 - (intOf i).toNat)
          case atStart => exact ⟨0, by omega, rfl, by rw [crc_in]; rfl⟩
          case round =>
            obtain ⟨q, hq, rfl, rfl⟩ := hrel
            obtain ⟨d, hd⟩ : ∃ d, d = crcBits q (c1 ^^^ l[j].toBitVec.zeroExtend 32) := ⟨_, rfl⟩
            rw [← hd]
            have HD := Lib.hid hd; clear hd
            by_cases h3 : q < 8
            · go_wp2
              go_round
              case rel => exact ⟨q + 1, by omega, by go_num, by rw [crc_bit, HD.out]; rfl⟩
              case measure => simp [intOf]; omega
            · go_wp2
              go_round
              case rel =>
                obtain rfl : q = 8 := by omega
                refine ⟨j + 1, by omega, by go_num, ?_⟩
                rw [HD.out, HC1.out, List.take_succ_eq_append_getElem h2, crcGo_snoc]
                rfl
              case measure => simp [intOf]; omega
        · go_wp2
          go_round
          case rel =>
            obtain rfl : j = l.length := by omega
            refine ⟨k + 1, by omega, by go_num, ?_⟩
            rw [HC0.out, List.take_length, List.take_succ_eq_append_getElem h, List.flatten_append, crcGo_append, HL.out]
            simp
          case measure => simp [intOf]; omega
    · go_wp2
      go_ret
      obtain rfl : k = ls.length := by omega
      exact ⟨by rw [crc_not, List.take_length]; rfl, rfl⟩

theorem crc_odd (d : BitVec 32) : (d.toNat % 2 = 1) = (d.getLsbD 0 = true) := by
  rw [BitVec.getLsbD, Nat.testBit_zero]
  simp

theorem crc_bit1 (d : BitVec 32) (h : d.toNat % 2 = 1) : bits .xor .u32 ((d.toNat : Int) / (2 : Int)) 3988292384 = ((crcBit d).toNat : Int) := by
  rw [crc_odd] at h
  rw [crc_half]
  have := u32_xor_bv (d >>> 1) crcPoly
  rw [show ((crcPoly.toNat : Nat) : Int) = 3988292384 from by decide +kernel] at this
  rw [this]
  simp only [crcBit, h, if_true]

theorem crc_bit0 (d : BitVec 32) (h : ¬ d.toNat % 2 = 1) : ((d.toNat : Int) / (2 : Int)) = ((crcBit d).toNat : Int) := by
  rw [crc_odd] at h
  rw [crc_half]
  simp only [crcBit, h]
  simp

theorem crc_not' (d : BitVec 32) : bits .xor .u32 (d.toNat : Int) 4294967295 = ((~~~d).toNat : Int) := by
  have := u32_xor_bv d (BitVec.allOnes 32)
  rw [BitVec.xor_allOnes] at this
  rw [← this]
  rfl

set_option maxRecDepth 100000 in
set_option maxHeartbeats 400000 in
theorem refCrc_any (v : Value) (l : List UInt8) (w : World) (hr : RdB w v l) :
    Calls Try.prog 24 #[v] w fun e w' => e = .returned (.int .u32 ((crc l).toNat : Int)) ∧ w = w' := by
  obtain ⟨A, c, rfl, hc1, hc2, hcell⟩ := hr
  have HC := Lib.hid hcell; clear hcell
  have hm : l.length ≤ 9223372036854775807 := by simp only [maxLen] at hc2; omega
  clear hc1 hc2
  go_enter Try.func24, Try.ntmps24
  go_wp2
  go_loop [3, 4] (fun c i => ∃ k : Nat, k ≤ l.length ∧ i = .int .i64 k ∧ c = .int .u32 ((crcGo crcInit (l.take k)).toNat : Int)) (fun _ i => l.length - (intOf i).toNat)
  case atStart => exact ⟨0, Nat.zero_le _, rfl, rfl⟩
  case round =>
    obtain ⟨k, hk, rfl, rfl⟩ := hrel
    by_cases h : k < l.length
    · obtain ⟨ad, hA, hcells⟩ := HC.out (by omega)
      subst hA
      have hcj := hcells k h
      rw [bv_nat] at hcj
      clear hcells
      obtain ⟨c1, hc1⟩ : ∃ c1, c1 = crcGo crcInit (l.take k) := ⟨_, rfl⟩
      rw [← hc1]
      have HC1 := Lib.hid hc1; clear hc1
      go_wp2
      go_loop [3, 5] (fun c i => ∃ q : Nat, q ≤ 8 ∧ i = .int .i64 q ∧ c = .int .u32 ((crcBits q (c1 ^^^ l[k].toBitVec.zeroExtend 32)).toNat : Int)) (fun _ i => 8 - (intOf i).toNat)
      case atStart => exact ⟨0, by omega, rfl, by rw [crc_in]; rfl⟩
      case round =>
        obtain ⟨q, hq, rfl, rfl⟩ := hrel
        obtain ⟨d, hd⟩ : ∃ d, d = crcBits q (c1 ^^^ l[k].toBitVec.zeroExtend 32) := ⟨_, rfl⟩
        rw [← hd]
        have HD := Lib.hid hd; clear hd
        by_cases h3 : q < 8
        · by_cases h4 : d.toNat % 2 = 1
          · go_wp2
            go_round
            case rel => exact ⟨q + 1, by omega, by go_num, by rw [crc_bit1 d h4, HD.out]; rfl⟩
            case measure => simp [intOf]; omega
          · go_wp2
            go_round
            case rel => exact ⟨q + 1, by omega, by go_num, by rw [crc_bit0 d h4, HD.out]; rfl⟩
            case measure => simp [intOf]; omega
        · go_wp2
          go_round
          case rel =>
            obtain rfl : q = 8 := by omega
            refine ⟨k + 1, by omega, by go_num, ?_⟩
            rw [HD.out, HC1.out, List.take_succ_eq_append_getElem h, crcGo_snoc]
            rfl
          case measure => simp [intOf]; omega
    · go_wp2
      go_ret
      obtain rfl : k = l.length := by omega
      exact ⟨by rw [crc_not', List.take_length]; rfl, rfl⟩

/-! What is made: a literal of bytes, a row of one row. -/
theorem lit_rd (w : World) (l : List UInt8) (fr : Nat × Nat) (hl : l.length ≤ maxLen) : RdB (w.alloc (.cells (bvs l).toArray 5 fr)) (.slice (some ⟨w.heap.size, 0, none⟩) l.length l.length) l := by
  refine ⟨_, _, rfl, Nat.le_refl _, hl, fun _ => ⟨_, rfl, fun j hj => ?_⟩⟩
  rw [addp, World.cell?_alloc_mark]
  simpa using bvs_get l j hj

theorem one_rd (w : World) (u : Value) (l : List UInt8) (h : RdB w u l) : RdBs (w.alloc (.cells #[u] 25)) (.slice (some ⟨w.heap.size, 0, none⟩) 1 1) [l] := by
  refine ⟨_, _, rfl, Nat.le_refl _, by simp [maxLen], fun _ => ⟨_, rfl, fun j hj => ?_⟩⟩
  obtain rfl : j = 0 := by simp at hj; omega
  refine ⟨u, ?_, h.below ((Below.refl _ _).alloc (Nat.le_refl _) _)⟩
  rw [addp, cell_of_row (w.alloc (.cells #[u] 25)) w.heap.size 0 #[u] 25 (0, 0) (heap_alloc_new w _)]
  rfl

theorem two_rd (w : World) (u u' : Value) (l l' : List UInt8) (h : RdB w u l) (h' : RdB w u' l') : RdBs (w.alloc (.cells #[u, u'] 25)) (.slice (some ⟨w.heap.size, 0, none⟩) 2 2) [l, l'] := by
  have hb : Below w.heap.size w (w.alloc (.cells #[u, u'] 25)) := (Below.refl _ _).alloc (Nat.le_refl _) _
  refine ⟨_, _, rfl, Nat.le_refl _, by simp [maxLen], fun _ => ⟨_, rfl, fun j hj => ?_⟩⟩
  have hj2 : j = 0 ∨ j = 1 := by simp at hj; omega
  rcases hj2 with rfl | rfl
  · refine ⟨u, ?_, h.below hb⟩
    rw [addp, cell_of_row (w.alloc (.cells #[u, u'] 25)) w.heap.size 0 #[u, u'] 25 (0, 0) (heap_alloc_new w _)]
    rfl
  · refine ⟨u', ?_, h'.below hb⟩
    rw [addp, cell_of_row (w.alloc (.cells #[u, u'] 25)) w.heap.size 1 #[u, u'] 25 (0, 0) (heap_alloc_new w _)]
    rfl

theorem RdBs.below {w w' : World} {v : Value} {ls : List (List UInt8)} (h : RdBs w v ls) (hb : Below w.heap.size w w') : RdBs w' v ls := by
  obtain ⟨A, c, hv, h1, h2, h3⟩ := h
  refine ⟨A, c, hv, h1, h2, fun hp => ?_⟩
  obtain ⟨ad, hA, hcell⟩ := h3 hp
  refine ⟨ad, hA, fun j hj => ?_⟩
  obtain ⟨u, hc, hr⟩ := hcell j hj
  exact ⟨u, by rw [hb.cell (World.block_lt_of_cell? w _ hc), hc], hr.below hb⟩

/-- One row alone: what the variadic call hands over. -/
theorem crc_one (u : Value) (l : List UInt8) (w : World) (h : RdB w u l) :
    Calls Try.prog 23 #[.slice (some ⟨w.heap.size, 0, none⟩) 1 1] (w.alloc (.cells #[u] 25)) fun e w' => e = .returned (.int .u32 ((crc l).toNat : Int)) ∧ w.alloc (.cells #[u] 25) = w' := by
  have := crc_any _ [l] _ (one_rd w u l h)
  simpa using this
/-- The same, the new block's number as the caller spells it. -/
theorem crc_oneH (H : Nat) (u : Value) (l : List UInt8) (w : World) (h : RdB w u l) (hH : w.heap.size = H) :
    Calls Try.prog 23 #[.slice (some ⟨H, 0, none⟩) 1 1] (w.alloc (.cells #[u] 25)) fun e w' => e = .returned (.int .u32 ((crc l).toNat : Int)) ∧ w.alloc (.cells #[u] 25) = w' := by
  subst hH
  exact crc_one u l w h
theorem crc_twoH (H : Nat) (u u' : Value) (l l' : List UInt8) (w : World) (h : RdB w u l) (h' : RdB w u' l') (hH : w.heap.size = H) :
    Calls Try.prog 23 #[.slice (some ⟨H, 0, none⟩) 2 2] (w.alloc (.cells #[u, u'] 25)) fun e w' => e = .returned (.int .u32 ((crc (l ++ l')).toNat : Int)) ∧ w.alloc (.cells #[u, u'] 25) = w' := by
  subst hH
  have := crc_any _ [l, l'] _ (two_rd w u u' l l' h h')
  simpa using this
end Go.Proofs.Ytggjipfdfpdecaa

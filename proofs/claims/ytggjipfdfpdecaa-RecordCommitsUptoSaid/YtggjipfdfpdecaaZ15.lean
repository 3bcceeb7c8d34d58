/- Texts merged: NumC, Open, RcO. Each says below what it proves. -/
import Derived.Test.YtggjipfdfpdecaaZ01
import Derived.Test.YtggjipfdfpdecaaZ02
import Derived.Deep.LoopGhost
import Derived.ProofKit
import Derived.OpenShut
import Derived.ShutString
import Derived.SizedLaws
import Derived.Deep.Slices
import Derived.JoinedCond
import Derived.Deep.CondSized
import Derived.Test.YtggjipfdfpdecaaZ08
import Derived.Lib.SmallJoins
import Derived.Deep.Strs
/- The walks of the two sums, num.Crc and varveref01.Crc. -/
namespace Go.Proofs.Ytggjipfdfpdecaa
open Go.RowKit

/-- The value v reads as the rows of bytes ls. -/
def RdBs (w : World) (v : Value) (ls : List (List UInt8)) : Prop :=
  ∃ A c, v = .slice A ls.length c ∧ ls.length ≤ c ∧ c ≤ maxLen ∧ (0 < ls.length → ∃ ad : Addr, A = some ad ∧ ∀ j (h : j < ls.length), ∃ u, w.cell? (ad.add j) = some u ∧ RdB w u ls[j])

theorem u32_ofInt (c : BitVec 32) : BitVec.ofInt 32 (c.toNat : Int) = c := by
  apply BitVec.eq_of_toNat_eq
  simp

theorem u32_xor_bv (c d : BitVec 32) : bits .xor .u32 (c.toNat : Int) (d.toNat : Int) = ((c ^^^ d).toNat : Int) := by
  show IntKind.u32.wrap ((BitVec.ofInt 32 (c.toNat : Int) ^^^ BitVec.ofInt 32 (d.toNat : Int)).toNat : Int) = _
  rw [u32_ofInt, u32_ofInt]
  have := (c ^^^ d).isLt
  rw [IntKind.wrap_u32, Int.emod_eq_of_lt (by omega) (by omega)]

theorem u32_and_bv (c d : BitVec 32) : bits .and .u32 (c.toNat : Int) (d.toNat : Int) = ((c &&& d).toNat : Int) := by
  show IntKind.u32.wrap ((BitVec.ofInt 32 (c.toNat : Int) &&& BitVec.ofInt 32 (d.toNat : Int)).toNat : Int) = _
  rw [u32_ofInt, u32_ofInt]
  have := (c &&& d).isLt
  rw [IntKind.wrap_u32, Int.emod_eq_of_lt (by omega) (by omega)]

theorem crc_half (d : BitVec 32) : ((d.toNat : Int) / (2 : Int)) = ((d >>> 1).toNat : Int) := by
  rw [BitVec.toNat_ushiftRight, Nat.shiftRight_eq_div_pow]
  omega

theorem crc_bit (d : BitVec 32) :
    bits .xor .u32 ((d.toNat : Int) / 2) (bits .and .u32 3988292384 (-bits .and .u32 (d.toNat : Int) 1 % 4294967296)) = ((crcBit d).toNat : Int) := by
  have h1 : bits .and .u32 (d.toNat : Int) 1 = ((d &&& 1#32).toNat : Int) := u32_and_bv d 1#32
  rw [h1, crc_half]
  unfold crcBit
  cases hb : d.getLsbD 0 with
  | false =>
    have hb' : d[0] = false := by simpa using hb
    have h2 : d &&& 1#32 = 0#32 := by
      apply BitVec.eq_of_getLsbD_eq
      intro i hi
      rcases i with _ | i
      · simp [hb']
      · simp
    rw [h2]
    have h3 : bits .and .u32 3988292384 (-((0#32 : BitVec 32).toNat : Int) % 4294967296) = ((0#32 : BitVec 32).toNat : Int) := by decide +kernel
    rw [h3, u32_xor_bv]
    simp
  | true =>
    have hb' : d[0] = true := by simpa using hb
    have h2 : d &&& 1#32 = 1#32 := by
      apply BitVec.eq_of_getLsbD_eq
      intro i hi
      rcases i with _ | i
      · simp [hb']
      · simp
    rw [h2]
    have h3 : bits .and .u32 3988292384 (-((1#32 : BitVec 32).toNat : Int) % 4294967296) = ((crcPoly : BitVec 32).toNat : Int) := by decide +kernel
    rw [h3, u32_xor_bv]
    simp

theorem crc_not (d : BitVec 32) : bits .xor .u32 IntKind.u32.max (d.toNat : Int) = ((~~~d).toNat : Int) := by
  have h : IntKind.u32.max = (((BitVec.allOnes 32).toNat : Nat) : Int) := by decide +kernel
  rw [h, u32_xor_bv, BitVec.allOnes_xor]

theorem u8_ext (b : UInt8) : ((b.toBitVec.zeroExtend 32).toNat) = b.toNat := by
  have := b.toNat_lt
  simp [BitVec.toNat_setWidth]

theorem crc_in (c : BitVec 32) (b : UInt8) : bits .xor .u32 (c.toNat : Int) ((b.toNat : Int) % 4294967296) = ((c ^^^ b.toBitVec.zeroExtend 32).toNat : Int) := by
  rw [← u32_xor_bv, u8_ext]
  have := b.toNat_lt
  rw [Int.emod_eq_of_lt (by omega) (by omega)]

set_option maxRecDepth 100000 in
set_option maxHeartbeats 400000 in
theorem crc_any (v : Value) (ls : List (List UInt8)) (w : World) (hr : RdBs w v ls) :
    Calls Try.prog 23 #[v] w fun e w' => e = .returned (.int .u32 ((crc ls.flatten).toNat : Int)) ∧ w = w' := by
  obtain ⟨A, c, rfl, hc1, hc2, hcell⟩ := hr
  have HC := Lib.hid hcell; clear hcell
  have hm : ls.length ≤ 9223372036854775807 := by simp only [maxLen] at hc2; omega
  clear hc1 hc2
  go_enter Try.func23, Try.ntmps23
  go_wp2
  go_loop [3, 10] (fun c i => ∃ k : Nat, k ≤ ls.length ∧ i = .int .i64 k ∧ c = .int .u32 ((crcGo crcInit (ls.take k).flatten).toNat : Int)) (fun _ i => ls.length - (intOf i).toNat)
  case atStart => exact ⟨0, Nat.zero_le _, rfl, rfl⟩
  case round =>
    obtain ⟨k, hk, rfl, rfl⟩ := hrel
    by_cases h : k < ls.length
    · obtain ⟨ad, hA, hcells⟩ := HC.out (by omega)
      obtain ⟨u, hcu, hru⟩ := hcells k h
      obtain ⟨A', c', hu, hu1, hu2, hucell⟩ := hru
      subst hA hu
      have HU := Lib.hid hucell; clear hucell
      have hm' : ls[k].length ≤ 9223372036854775807 := by simp only [maxLen] at hu2; omega
      clear hu1 hu2
      obtain ⟨c0, hc0⟩ : ∃ c0, c0 = crcGo crcInit (ls.take k).flatten := ⟨_, rfl⟩
      rw [← hc0]
      have HC0 := Lib.hid hc0; clear hc0
      obtain ⟨l, hl⟩ : ∃ l, l = ls[k] := ⟨_, rfl⟩
      rw [← hl] at hcu HU hm'
      have HL := Lib.hid hl; clear hl
      go_wp2
      go_loop [3, 16] (fun c i => ∃ j : Nat, j ≤ l.length ∧ i = .int .i64 j ∧ c = .int .u32 ((crcGo c0 (l.take j)).toNat : Int)) (fun _ i => l.length - (intOf i).toNat)
      case atStart => exact ⟨0, Nat.zero_le _, rfl, rfl⟩
      case round =>
        obtain ⟨j, hj, rfl, rfl⟩ := hrel
        by_cases h2 : j < l.length
        · obtain ⟨ad', hA', hcells'⟩ := HU.out (by omega)
          subst hA'
          have hcj := hcells' j h2
          rw [bv_nat] at hcj
          clear hcells' hcells
          obtain ⟨c1, hc1⟩ : ∃ c1, c1 = crcGo c0 (l.take j) := ⟨_, rfl⟩
          rw [← hc1]
          have HC1 := Lib.hid hc1; clear hc1
          go_wp2
          go_loop [3, 24] (fun c i => ∃ q : Nat, q ≤ 8 ∧ i = .int .i64 q ∧ c = .int .u32 ((crcBits q (c1 ^^^ l[j].toBitVec.zeroExtend 32)).toNat : Int)) (fun _ i => 8 - (intOf i).toNat)
          case atStart => exact ⟨0, by omega, rfl, by rw [crc_in]; rfl⟩
          case round =>
            obtain ⟨q, hq, rfl, rfl⟩ := hrel
            obtain ⟨d, hd⟩ : ∃ d, d = crcBits q (c1 ^^^ l[j].toBitVec.zeroExtend 32) := ⟨_, rfl⟩
            rw [← hd]
            have HD := Lib.hid hd; clear hd
            by_cases h3 : q < 8
            · go_wp2
              go_round
              case rel => exact ⟨q + 1, by omega, by go_num, by rw [crc_bit, HD.out]; rfl⟩
              case measure => simp [intOf]; omega
            · go_wp2
              go_round
              case rel =>
                obtain rfl : q = 8 := by omega
                refine ⟨j + 1, by omega, by go_num, ?_⟩
                rw [HD.out, HC1.out, List.take_succ_eq_append_getElem h2, crcGo_snoc]
                rfl
              case measure => simp [intOf]; omega
        · go_wp2
          go_round
          case rel =>
            obtain rfl : j = l.length := by omega
            refine ⟨k + 1, by omega, by go_num, ?_⟩
            rw [HC0.out, List.take_length, List.take_succ_eq_append_getElem h, List.flatten_append, crcGo_append, HL.out]
            simp
          case measure => simp [intOf]; omega
    · go_wp2
      go_ret
      obtain rfl : k = ls.length := by omega
      exact ⟨by rw [crc_not, List.take_length]; rfl, rfl⟩

theorem crc_odd (d : BitVec 32) : (d.toNat % 2 = 1) = (d.getLsbD 0 = true) := by
  rw [BitVec.getLsbD, Nat.testBit_zero]
  simp

theorem crc_bit1 (d : BitVec 32) (h : d.toNat % 2 = 1) : bits .xor .u32 ((d.toNat : Int) / (2 : Int)) 3988292384 = ((crcBit d).toNat : Int) := by
  rw [crc_odd] at h
  rw [crc_half]
  have := u32_xor_bv (d >>> 1) crcPoly
  rw [show ((crcPoly.toNat : Nat) : Int) = 3988292384 from by decide +kernel] at this
  rw [this]
  simp only [crcBit, h, if_true]

theorem crc_bit0 (d : BitVec 32) (h : ¬ d.toNat % 2 = 1) : ((d.toNat : Int) / (2 : Int)) = ((crcBit d).toNat : Int) := by
  rw [crc_odd] at h
  rw [crc_half]
  simp only [crcBit, h]
  simp

theorem crc_not' (d : BitVec 32) : bits .xor .u32 (d.toNat : Int) 4294967295 = ((~~~d).toNat : Int) := by
  have := u32_xor_bv d (BitVec.allOnes 32)
  rw [BitVec.xor_allOnes] at this
  rw [← this]
  rfl

set_option maxRecDepth 100000 in
set_option maxHeartbeats 400000 in
theorem refCrc_any (v : Value) (l : List UInt8) (w : World) (hr : RdB w v l) :
    Calls Try.prog 24 #[v] w fun e w' => e = .returned (.int .u32 ((crc l).toNat : Int)) ∧ w = w' := by
  obtain ⟨A, c, rfl, hc1, hc2, hcell⟩ := hr
  have HC := Lib.hid hcell; clear hcell
  have hm : l.length ≤ 9223372036854775807 := by simp only [maxLen] at hc2; omega
  clear hc1 hc2
  go_enter Try.func24, Try.ntmps24
  go_wp2
  go_loop [3, 4] (fun c i => ∃ k : Nat, k ≤ l.length ∧ i = .int .i64 k ∧ c = .int .u32 ((crcGo crcInit (l.take k)).toNat : Int)) (fun _ i => l.length - (intOf i).toNat)
  case atStart => exact ⟨0, Nat.zero_le _, rfl, rfl⟩
  case round =>
    obtain ⟨k, hk, rfl, rfl⟩ := hrel
    by_cases h : k < l.length
    · obtain ⟨ad, hA, hcells⟩ := HC.out (by omega)
      subst hA
      have hcj := hcells k h
      rw [bv_nat] at hcj
      clear hcells
      obtain ⟨c1, hc1⟩ : ∃ c1, c1 = crcGo crcInit (l.take k) := ⟨_, rfl⟩
      rw [← hc1]
      have HC1 := Lib.hid hc1; clear hc1
      go_wp2
      go_loop [3, 5] (fun c i => ∃ q : Nat, q ≤ 8 ∧ i = .int .i64 q ∧ c = .int .u32 ((crcBits q (c1 ^^^ l[k].toBitVec.zeroExtend 32)).toNat : Int)) (fun _ i => 8 - (intOf i).toNat)
      case atStart => exact ⟨0, by omega, rfl, by rw [crc_in]; rfl⟩
      case round =>
        obtain ⟨q, hq, rfl, rfl⟩ := hrel
        obtain ⟨d, hd⟩ : ∃ d, d = crcBits q (c1 ^^^ l[k].toBitVec.zeroExtend 32) := ⟨_, rfl⟩
        rw [← hd]
        have HD := Lib.hid hd; clear hd
        by_cases h3 : q < 8
        · by_cases h4 : d.toNat % 2 = 1
          · go_wp2
            go_round
            case rel => exact ⟨q + 1, by omega, by go_num, by rw [crc_bit1 d h4, HD.out]; rfl⟩
            case measure => simp [intOf]; omega
          · go_wp2
            go_round
            case rel => exact ⟨q + 1, by omega, by go_num, by rw [crc_bit0 d h4, HD.out]; rfl⟩
            case measure => simp [intOf]; omega
        · go_wp2
          go_round
          case rel =>
            obtain rfl : q = 8 := by omega
            refine ⟨k + 1, by omega, by go_num, ?_⟩
            rw [HD.out, HC1.out, List.take_succ_eq_append_getElem h, crcGo_snoc]
            rfl
          case measure => simp [intOf]; omega
    · go_wp2
      go_ret
      obtain rfl : k = l.length := by omega
      exact ⟨by rw [crc_not', List.take_length]; rfl, rfl⟩

/-! What is made: a literal of bytes, a row of one row. -/
theorem lit_rd (w : World) (l : List UInt8) (fr : Nat × Nat) (hl : l.length ≤ maxLen) : RdB (w.alloc (.cells (bvs l).toArray 5 fr)) (.slice (some ⟨w.heap.size, 0, none⟩) l.length l.length) l := by
  refine ⟨_, _, rfl, Nat.le_refl _, hl, fun _ => ⟨_, rfl, fun j hj => ?_⟩⟩
  rw [addp, World.cell?_alloc_mark]
  simpa using bvs_get l j hj

theorem one_rd (w : World) (u : Value) (l : List UInt8) (h : RdB w u l) : RdBs (w.alloc (.cells #[u] 25)) (.slice (some ⟨w.heap.size, 0, none⟩) 1 1) [l] := by
  refine ⟨_, _, rfl, Nat.le_refl _, by simp [maxLen], fun _ => ⟨_, rfl, fun j hj => ?_⟩⟩
  obtain rfl : j = 0 := by simp at hj; omega
  refine ⟨u, ?_, h.below ((Below.refl _ _).alloc (Nat.le_refl _) _)⟩
  rw [addp, cell_of_row (w.alloc (.cells #[u] 25)) w.heap.size 0 #[u] 25 (0, 0) (heap_alloc_new w _)]
  rfl

theorem two_rd (w : World) (u u' : Value) (l l' : List UInt8) (h : RdB w u l) (h' : RdB w u' l') : RdBs (w.alloc (.cells #[u, u'] 25)) (.slice (some ⟨w.heap.size, 0, none⟩) 2 2) [l, l'] := by
  have hb : Below w.heap.size w (w.alloc (.cells #[u, u'] 25)) := (Below.refl _ _).alloc (Nat.le_refl _) _
  refine ⟨_, _, rfl, Nat.le_refl _, by simp [maxLen], fun _ => ⟨_, rfl, fun j hj => ?_⟩⟩
  have hj2 : j = 0 ∨ j = 1 := by simp at hj; omega
  rcases hj2 with rfl | rfl
  · refine ⟨u, ?_, h.below hb⟩
    rw [addp, cell_of_row (w.alloc (.cells #[u, u'] 25)) w.heap.size 0 #[u, u'] 25 (0, 0) (heap_alloc_new w _)]
    rfl
  · refine ⟨u', ?_, h'.below hb⟩
    rw [addp, cell_of_row (w.alloc (.cells #[u, u'] 25)) w.heap.size 1 #[u, u'] 25 (0, 0) (heap_alloc_new w _)]
    rfl

theorem RdBs.below {w w' : World} {v : Value} {ls : List (List UInt8)} (h : RdBs w v ls) (hb : Below w.heap.size w w') : RdBs w' v ls := by
  obtain ⟨A, c, hv, h1, h2, h3⟩ := h
  refine ⟨A, c, hv, h1, h2, fun hp => ?_⟩
  obtain ⟨ad, hA, hcell⟩ := h3 hp
  refine ⟨ad, hA, fun j hj => ?_⟩
  obtain ⟨u, hc, hr⟩ := hcell j hj
  exact ⟨u, by rw [hb.cell (World.block_lt_of_cell? w _ hc), hc], hr.below hb⟩

/-- One row alone: what the variadic call hands over. -/
theorem crc_one (u : Value) (l : List UInt8) (w : World) (h : RdB w u l) :
    Calls Try.prog 23 #[.slice (some ⟨w.heap.size, 0, none⟩) 1 1] (w.alloc (.cells #[u] 25)) fun e w' => e = .returned (.int .u32 ((crc l).toNat : Int)) ∧ w.alloc (.cells #[u] 25) = w' := by
  have := crc_any _ [l] _ (one_rd w u l h)
  simpa using this
/-- The same, the new block's number as the caller spells it. -/
theorem crc_oneH (H : Nat) (u : Value) (l : List UInt8) (w : World) (h : RdB w u l) (hH : w.heap.size = H) :
    Calls Try.prog 23 #[.slice (some ⟨H, 0, none⟩) 1 1] (w.alloc (.cells #[u] 25)) fun e w' => e = .returned (.int .u32 ((crc l).toNat : Int)) ∧ w.alloc (.cells #[u] 25) = w' := by
  subst hH
  exact crc_one u l w h
theorem crc_twoH (H : Nat) (u u' : Value) (l l' : List UInt8) (w : World) (h : RdB w u l) (h' : RdB w u' l') (hH : w.heap.size = H) :
    Calls Try.prog 23 #[.slice (some ⟨H, 0, none⟩) 2 2] (w.alloc (.cells #[u, u'] 25)) fun e w' => e = .returned (.int .u32 ((crc (l ++ l')).toNat : Int)) ∧ w.alloc (.cells #[u, u'] 25) = w' := by
  subst hH
  have := crc_any _ [l, l'] _ (two_rd w u u' l l' h h')
  simpa using this
end Go.Proofs.Ytggjipfdfpdecaa
/- What comes in: a slice of bytes, a slice of slices of bytes, read as lists. -/
namespace Go.Proofs.Ytggjipfdfpdecaa
open Go.ChangeShapes Go.WideShapes Go.ChangeAt Go.RowKit Go.Deep

theorem own : ownKnob Try.prog.godebug = none := by kernel_rfl
theorem laidOut : laidOutB Try.prog = true := by kernel_rfl

/-! bulk -/
theorem bulk_one {H : Type} (d : DataW H) : 1 ≤ Rows.uptoBulk d := by
  cases d with
  | lit l => cases l <;> simp [Rows.uptoBulk]
  | nil => simp [Rows.uptoBulk]
  | ptr d => simp [Rows.uptoBulk]
  | slice elems spare => simp [Rows.uptoBulk]
  | agg parts => simp [Rows.uptoBulk]
  | iface t d => simp [Rows.uptoBulk]
  | map entries => simp [Rows.uptoBulk]
  | held h => simp [Rows.uptoBulk]
theorem bulk_len {H : Type} (l : List (DataW H)) : l.length ≤ Rows.uptoBulkAll l := by
  induction l with
  | nil => simp [Rows.uptoBulkAll]
  | cons x r ih => have := bulk_one x; simp only [Rows.uptoBulkAll, List.length_cons]; omega
theorem bulk_slice {H : Type} (elems spare : List (DataW H)) : Rows.uptoBulkAll elems + 1 ≤ Rows.uptoBulk (.slice elems spare) := by
  simp only [Rows.uptoBulk]
  omega
theorem bulk_string {H : Type} (bytes : List UInt8) : Rows.uptoBulk (DataW.lit (H := H) (.string bytes)) = bytes.length + 1 := by
  simp [Rows.uptoBulk]
theorem bulk_bound {H : Type} {l : List (DataW H)} (hk : Rows.uptoSmall H l = true) : Rows.uptoBulkAll l ≤ 1048576 := of_decide_eq_true hk
theorem bulk_cons {H : Type} (d : DataW H) (l : List (DataW H)) : Rows.uptoBulkAll (d :: l) = Rows.uptoBulk d + Rows.uptoBulkAll l := by
  simp only [Rows.uptoBulkAll]

theorem cells5 : Try.prog.cellsOf 5 = 1 := by kernel_rfl
theorem cells25 : Try.prog.cellsOf 25 = 1 := by kernel_rfl
theorem bytes5 : Try.prog.bytesOf 5 = 1 := by kernel_rfl

section
variable {H : Type} {enc : TypeId × Value → H} {w : World} {base : Nat} {spare : Nat → Bool} {held : Bool}

/-- How long a slice is, as its datum says. -/
def LenOf (d : DataW H) (n : Nat) : Prop := n = 0 ∨ ∃ e s, d = .slice e s ∧ n ≤ e.length

theorem bytes_of {fuel : Nat} {cs : List Value} {x : DataW H × List MemPlace} (h : DataW.trod enc Try.prog w base spare held fuel 25 cs = some x) :
    ∃ v l, cs = [v] ∧ RdB w v l ∧ l.length + 1 ≤ Rows.uptoBulk x.1 ∧ LenOf x.1 l.length := by
  rcases open_ints Try.underlying25 Try.underlying5 cells5 h with ⟨rfl, rfl⟩ | ⟨a, len, cap, zs, rfl, _, hl, hm, hz, rfl, hcell, hwf⟩
  · exact ⟨_, [], rfl, RdB.nil w, by simp [Rows.uptoBulk], .inl rfl⟩
  · have hlz : len ≤ zs.length := by
      rw [hz]
      split
      · exact hl
      · exact Nat.le_refl _
    have hlen : ((zs.take len).map fun z => UInt8.ofNat z.toNat).length = len := by simp; omega
    refine ⟨_, (zs.take len).map fun z => UInt8.ofNat z.toNat, rfl, ?_, ?_, .inr ⟨_, _, rfl, ?_⟩⟩
    · refine ⟨some a, cap, by rw [hlen], by rw [hlen]; exact hl, hm, fun _ => ⟨a, rfl, fun j hj => ?_⟩⟩
      rw [hlen] at hj
      have hj' : j < zs.length := by omega
      rw [hcell j hj']
      have hwfj := hwf (zs[j]) (List.getElem_mem hj')
      simp only [Lit.wf] at hwfj
      have hb : 0 ≤ zs[j] ∧ zs[j] ≤ 255 := by
        have := hwfj
        simp [IntKind.min, IntKind.max, IntKind.signed, IntKind.bits] at this
        omega
      simp only [List.getD_eq_getElem?_getD, List.getElem?_eq_getElem hj', Option.getD_some, bv, List.getElem_map, List.getElem_take]
      have he : ((UInt8.ofNat (zs[j]).toNat).toNat : Int) = zs[j] := by
        rw [UInt8.toNat_ofNat']
        omega
      rw [he]
    · have h1 := bulk_len (H := H) (lits .u8 (zs.take len))
      have h2 := bulk_slice (H := H) (lits .u8 (zs.take len)) (lits .u8 (zs.drop len))
      have h3 : (lits (H := H) .u8 (zs.take len)).length = len := by simp [lits]; omega
      rw [hlen]
      show len + 1 ≤ Rows.uptoBulk (DataW.slice (lits .u8 (zs.take len)) (lits .u8 (zs.drop len)))
      omega
    · rw [hlen]
      simp [lits]
      omega

theorem bulk_append {H : Type} (l r : List (DataW H)) : Rows.uptoBulkAll (l ++ r) = Rows.uptoBulkAll l + Rows.uptoBulkAll r := by
  induction l with
  | nil => simp [Rows.uptoBulkAll]
  | cons x l ih => simp only [List.cons_append, Rows.uptoBulkAll, ih]; omega

theorem rows_fold {p : Nat → List UInt8 → Prop} : ∀ (n : Nat), (∀ i, i < n → ∃ l, p i l) → ∃ ls : List (List UInt8), ls.length = n ∧ ∀ j (h : j < ls.length), p j ls[j]
  | 0, _ => ⟨[], rfl, fun j h => by simp at h⟩
  | n + 1, h => by
    obtain ⟨ls, hl, hp⟩ := rows_fold n (fun i hi => h i (by omega))
    obtain ⟨l, hl'⟩ := h n (by omega)
    refine ⟨ls ++ [l], by simp [hl], fun j hj => ?_⟩
    by_cases e : j < ls.length
    · rw [List.getElem_append_left e]; exact hp j e
    · have : j = ls.length := by simp at hj; omega
      subst this
      rw [List.getElem_append_right (Nat.le_refl _)]
      simp only [Nat.sub_self, List.getElem_cons_zero]
      rw [hl]
      exact hl'

theorem rows_bulk' {H : Type} (D : Nat → DataW H) : ∀ (n : Nat) (ls : List (List UInt8)), ls.length = n → (∀ j (h : j < ls.length), ls[j].length + 1 ≤ Rows.uptoBulk (D j)) → ls.flatten.length + n ≤ Rows.uptoBulkAll ((List.range n).map D)
  | 0, ls, hn, _ => by obtain rfl := List.eq_nil_of_length_eq_zero hn; simp [Rows.uptoBulkAll]
  | n + 1, ls, hn, h => by
    have hne : ls ≠ [] := by rintro rfl; simp at hn
    have hd := List.dropLast_concat_getLast hne
    have hl : ls.dropLast.length = n := by simp [hn]
    have h1 := rows_bulk' D n ls.dropLast hl (fun j hj => by
      have := h j (by omega)
      rw [List.getElem_dropLast]
      exact this)
    have h2 := h n (by omega)
    have hlast : ls.getLast hne = ls[n] := by rw [List.getLast_eq_getElem]; congr 1; omega
    rw [List.range_succ, List.map_append, bulk_append]
    have hf : ls.flatten.length = ls.dropLast.flatten.length + ls[n].length := by
      conv => lhs; rw [← hd]
      rw [List.flatten_append, List.length_append, hlast]
      simp
    rw [hf]
    simp only [List.map_cons, List.map_nil, Rows.uptoBulkAll]
    omega
theorem rows_bulk {H : Type} (D : Nat → DataW H) (ls : List (List UInt8)) (h : ∀ j (h : j < ls.length), ls[j].length + 1 ≤ Rows.uptoBulk (D j)) : ls.flatten.length + ls.length ≤ Rows.uptoBulkAll ((List.range ls.length).map D) := rows_bulk' D _ ls rfl h

theorem rows_of {fuel : Nat} {cs : List Value} {x : DataW H × List MemPlace} (h : DataW.trod enc Try.prog w base spare held fuel 22 cs = some x) :
    ∃ v ls, cs = [v] ∧ RdBs w v ls ∧ ls.flatten.length + ls.length + 1 ≤ Rows.uptoBulk x.1 ∧ LenOf x.1 ls.length := by
  rcases open_slice1 Try.underlying22 cells25 h with ⟨rfl, rfl⟩ | ⟨a, len, cap, m, n, V, D, Pl, rfl, _, hl, hcap, hm, rfl, hx⟩
  · exact ⟨_, [], rfl, ⟨none, 0, rfl, Nat.le_refl _, by simp [maxLen], fun h => by simp at h⟩, by simp [Rows.uptoBulk], .inl rfl⟩
  · have hlm : len ≤ m := by
      rw [hm]
      split
      · exact hl
      · exact Nat.le_refl _
    obtain ⟨ls, hls, hp⟩ := rows_fold (p := fun j l => ∃ u, w.cell? (a.add j) = some u ∧ RdB w u l ∧ l.length + 1 ≤ Rows.uptoBulk (D j)) len (fun i hi => by
      obtain ⟨hc, ht⟩ := hx i (by omega)
      obtain ⟨v, l, hv, hr, hb, _⟩ := bytes_of ht
      obtain rfl : V i = v := by simpa using hv
      exact ⟨l, _, hc, hr, hb⟩)
    subst hls
    refine ⟨_, ls, rfl, ⟨some a, cap, rfl, hl, hcap, fun _ => ⟨a, rfl, fun j hj => ?_⟩⟩, ?_, .inr ⟨_, _, rfl, by simp⟩⟩
    · obtain ⟨u, h1, h2, _⟩ := hp j hj
      exact ⟨u, h1, h2⟩
    · have h1 := rows_bulk D ls (fun j hj => by obtain ⟨u, _, _, h3⟩ := hp j hj; exact h3)
      have h2 := bulk_slice ((List.range ls.length).map D) ((List.range (m - ls.length)).map fun j => D (ls.length + j))
      show ls.flatten.length + ls.length + 1 ≤ Rows.uptoBulk (DataW.slice ((List.range ls.length).map D) ((List.range (m - ls.length)).map fun j => D (ls.length + j)))
      omega
end
end Go.Proofs.Ytggjipfdfpdecaa
/- What comes in: a row, a commit, a manifest, read as lists. -/
set_option linter.unusedVariables false
namespace Go.Proofs.Ytggjipfdfpdecaa
open Go.ChangeShapes Go.WideShapes Go.ChangeAt Go.RowKit Go.Deep Go.Joins

theorem cells66 : Try.prog.cellsOf 66 = 3 := by kernel_rfl
theorem cells81 : Try.prog.cellsOf 81 = 3 := by kernel_rfl
theorem cells64 : Try.prog.cellsOf 64 = 2 := by kernel_rfl
theorem cells74 : Try.prog.cellsOf 74 = 3 := by kernel_rfl
theorem cells79 : Try.prog.cellsOf 79 = 3 := by kernel_rfl

theorem fold_of {α : Type} {p : Nat → α → Prop} : ∀ (n : Nat), (∀ i, i < n → ∃ l, p i l) → ∃ ls : List α, ls.length = n ∧ ∀ j (h : j < ls.length), p j ls[j]
  | 0, _ => ⟨[], rfl, fun j h => by simp at h⟩
  | n + 1, h => by
    obtain ⟨ls, hl, hp⟩ := fold_of n (fun i hi => h i (by omega))
    obtain ⟨l, hl'⟩ := h n (by omega)
    refine ⟨ls ++ [l], by simp [hl], fun j hj => ?_⟩
    by_cases e : j < ls.length
    · rw [List.getElem_append_left e]; exact hp j e
    · have : j = ls.length := by simp at hj; omega
      subst this
      rw [List.getElem_append_right (Nat.le_refl _)]
      simp only [Nat.sub_self, List.getElem_cons_zero]
      rw [hl]
      exact hl'
theorem bulk_mem {H : Type} {d : DataW H} {l : List (DataW H)} (h : d ∈ l) : Rows.uptoBulk d + l.length ≤ Rows.uptoBulkAll l + 1 := by
  induction l with
  | nil => cases h
  | cons x r ih =>
    simp only [Rows.uptoBulkAll, List.length_cons]
    rcases List.mem_cons.1 h with rfl | h
    · have := bulk_len r; omega
    · have := ih h; have := bulk_one x; omega

section
variable {H : Type} {enc : TypeId × Value → H} {w : World} {base : Nat} {spare : Nat → Bool} {held : Bool}

/-- A slice of structs of three fields, each of one cell. -/
theorem open_three {t e : TypeId} {f0 f1 f2 : Field} {fuel : Nat} {cs : List Value} {x : DataW H × List MemPlace} (ht : Try.prog.underlying t = some (.slice e)) (he : Try.prog.underlying e = some (.struct #[f0, f1, f2])) (hone : oneCellFields Try.prog #[f0, f1, f2] = true) (hC : Try.prog.cellsOf e = 3)
    (h : DataW.trod enc Try.prog w base spare held fuel t cs = some x) :
    (cs = [.slice none 0 0] ∧ x = (.nil, [])) ∨
    ∃ (a : Addr) (len cap : Nat) (D : Nat → DataW H) (rest : List (DataW H)), cs = [.slice (some a) len cap] ∧ len ≤ cap ∧ cap ≤ maxLen ∧ x.1 = .slice ((List.range len).map D) rest ∧
      ∀ i, i < len → ∃ (n : Nat) (v : V3) (y0 y1 y2 : DataW H × List MemPlace), At3 w (a.add (i * 3)) v ∧ D i = .agg [y0.1, y1.1, y2.1] ∧
        DataW.trod enc Try.prog w base spare held n f0.type [v.a] = some y0 ∧ DataW.trod enc Try.prog w base spare held n f1.type [v.b] = some y1 ∧ DataW.trod enc Try.prog w base spare held n f2.type [v.c] = some y2 := by
  rcases open_slice ht h with h0 | ⟨a, len, cap, m, n, D, Pl, rfl, _, hl, hcap, hm, rfl, hx⟩
  · exact .inl h0
  · refine .inr ⟨a, len, cap, D, _, rfl, hl, hcap, rfl, fun i hi => ?_⟩
    obtain ⟨cs', hc, ht'⟩ := hx i (by rw [hm]; split <;> omega)
    rw [hC] at hc
    obtain ⟨_, hcl, hat⟩ := World.cells?_some hc
    match cs', hcl with
    | [c0, c1, c2], _ =>
      obtain ⟨y0, y1, y2, k, hy, _, h0, h1, h2⟩ := trod_struct3 he ht'
      obtain ⟨o0, k0⟩ := hone_of hone 0 f0 rfl
      obtain ⟨o1, k1⟩ := hone_of hone 1 f1 rfl
      obtain ⟨o2, k2⟩ := hone_of hone 2 f2 rfl
      simp only [Prod.mk.injEq] at hy
      refine ⟨k, ⟨c0, c1, c2⟩, y0, y1, y2, ⟨?_, ?_, ?_⟩, hy.1, by simpa [o0, k0] using h0, by simpa [o1, k1] using h1, by simpa [o2, k2] using h2⟩
      · have := hat 0 (by omega); simpa [Addr.add] using this
      · have := hat 1 (by omega); simpa [Addr.add] using this
      · have := hat 2 (by omega); simpa [Addr.add] using this

/-- Writes that come in. -/
theorem writes_of {fuel : Nat} {cs : List Value} {x : DataW H × List MemPlace} (h : DataW.trod enc Try.prog w base spare held fuel 62 cs = some x) :
    ∃ (v : Value) (ws : List Wri), cs = [v] ∧ Rd3 w v (ws.map wV) ∧ ws.length + 1 ≤ Rows.uptoBulk x.1 ∧ ∀ y ∈ ws, y.key.length + y.val.length ≤ Rows.uptoBulk x.1 := by
  rcases open_three Try.underlying62 Try.underlying66 (by kernel_rfl) cells66 h with ⟨rfl, rfl⟩ | ⟨a, len, cap, D, rest, rfl, hl, hcap, hx, hi⟩
  · exact ⟨_, [], rfl, Rd3.nil w, by simp [Rows.uptoBulk], fun y hy => by cases hy⟩
  · obtain ⟨ws, hws, hp⟩ := fold_of (p := fun j (y : Wri) => At3 w (a.add (j * 3)) (wV y) ∧ y.key.length + y.val.length + 1 ≤ Rows.uptoBulk (D j)) len (fun i hlt => by
      obtain ⟨n, v, y0, y1, y2, hat, hD, h0, h1, h2⟩ := hi i hlt
      obtain ⟨s0, hs0, rfl, _⟩ := DataW.trod_string (by kernel_rfl) h0
      obtain ⟨s1, hs1, rfl, _⟩ := DataW.trod_string (by kernel_rfl) h1
      obtain ⟨g, hg, rfl⟩ := DataW.trod_bool (by kernel_rfl) h2
      obtain ⟨va, vb, vc⟩ := v
      simp only [List.cons.injEq, and_true] at hs0 hs1 hg
      subst hs0 hs1 hg
      refine ⟨⟨s0.data.toList, s1.data.toList, g⟩, hat, ?_⟩
      rw [hD]
      simp only [Rows.uptoBulk, Rows.uptoBulkAll]
      omega)
    subst hws
    rw [hx]
    have h1 := bulk_len ((List.range ws.length).map D)
    have h2 := bulk_slice ((List.range ws.length).map D) rest
    rw [List.length_map, List.length_range] at h1
    refine ⟨_, ws, rfl, ⟨some a, cap, by rw [List.length_map], by rw [List.length_map]; exact hl, hcap, fun _ => ⟨a, rfl, fun j hj => ?_⟩⟩, by omega, fun y hy => ?_⟩
    · rw [List.length_map] at hj
      rw [List.getElem_map]
      exact (hp j hj).1
    · obtain ⟨j, hj, rfl⟩ := List.getElem_of_mem hy
      have h3 := (hp j hj).2
      have h4 := bulk_mem (H := H) (d := D j) (l := (List.range ws.length).map D) (List.mem_map.2 ⟨j, List.mem_range.2 hj, rfl⟩)
      rw [List.length_map, List.length_range] at h4
      omega

/-- Pairs that come in. -/
theorem pairs_of {fuel : Nat} {cs : List Value} {x : DataW H × List MemPlace} (h : DataW.trod enc Try.prog w base spare held fuel 72 cs = some x) :
    ∃ (v : Value) (ps : List Pai), cs = [v] ∧ Rd3 w v (ps.map pV) ∧ ps.length + 1 ≤ Rows.uptoBulk x.1 ∧ ∀ p ∈ ps, (Lit.int .i64 p.num).wf = true ∧ (Lit.int .i64 p.from_).wf = true ∧ (Lit.int .i64 p.to_).wf = true := by
  rcases open_three Try.underlying72 Try.underlying79 (by kernel_rfl) cells79 h with ⟨rfl, rfl⟩ | ⟨a, len, cap, D, rest, rfl, hl, hcap, hx, hi⟩
  · exact ⟨_, [], rfl, Rd3.nil w, by simp [Rows.uptoBulk], fun y hy => by cases hy⟩
  · obtain ⟨ps, hps, hp⟩ := fold_of (p := fun j (y : Pai) => At3 w (a.add (j * 3)) (pV y) ∧ ((Lit.int .i64 y.num).wf = true ∧ (Lit.int .i64 y.from_).wf = true ∧ (Lit.int .i64 y.to_).wf = true)) len (fun i hlt => by
      obtain ⟨n, v, y0, y1, y2, hat, hD, h0, h1, h2⟩ := hi i hlt
      obtain ⟨s0, hs0, rfl, g0⟩ := DataW.trod_int (k := .i64) (by kernel_rfl) h0
      obtain ⟨s1, hs1, rfl, g1⟩ := DataW.trod_int (k := .i64) (by kernel_rfl) h1
      obtain ⟨s2, hs2, rfl, g2⟩ := DataW.trod_int (k := .i64) (by kernel_rfl) h2
      obtain ⟨va, vb, vc⟩ := v
      simp only [List.cons.injEq, and_true] at hs0 hs1 hs2
      subst hs0 hs1 hs2
      exact ⟨⟨s0, s1, s2⟩, hat, g0, g1, g2⟩)
    subst hps
    rw [hx]
    have h1 := bulk_len ((List.range ps.length).map D)
    have h2 := bulk_slice ((List.range ps.length).map D) rest
    rw [List.length_map, List.length_range] at h1
    refine ⟨_, ps, rfl, ⟨some a, cap, by rw [List.length_map], by rw [List.length_map]; exact hl, hcap, fun _ => ⟨a, rfl, fun j hj => ?_⟩⟩, by omega, fun y hy => ?_⟩
    · rw [List.length_map] at hj
      rw [List.getElem_map]
      exact (hp j hj).1
    · obtain ⟨j, hj, rfl⟩ := List.getElem_of_mem hy
      exact (hp j hj).2

set_option maxRecDepth 100000 in
/-- A row that comes in. -/
theorem row_of {r : Reach} {b0 : Nat} {v : Value} {d : DataW H} {p : List MemPlace} (hv : Value.okWide Try.prog w r b0 81 v) (h : DataW.Trod enc Try.prog w base spare held 81 v d p) :
    ∃ (k u : ByteArray) (t : Int), v = .agg #[.string k, .string u, .int .i64 t] ∧ (Lit.int .i64 t).wf = true ∧ k.size + u.size + 2 ≤ Rows.uptoBulk d := by
  obtain ⟨c0, c1, c2, y0, y1, y2, n, rfl, rfl, rfl, h0, h1, h2⟩ := open_agg3 Try.underlying81 (by kernel_rfl) cells81 hv h
  obtain ⟨s0, hs0, rfl, _⟩ := DataW.trod_string (by kernel_rfl) h0
  obtain ⟨s1, hs1, rfl, _⟩ := DataW.trod_string (by kernel_rfl) h1
  obtain ⟨t, hs2, rfl, g2⟩ := DataW.trod_int (k := .i64) (by kernel_rfl) h2
  simp only [List.cons.injEq, and_true] at hs0 hs1 hs2
  subst hs0 hs1 hs2
  refine ⟨s0, s1, t, rfl, g2, ?_⟩
  simp only [Rows.uptoBulk, Rows.uptoBulkAll, Array.length_toList]
  have : s0.size = s0.data.size := rfl
  have : s1.size = s1.data.size := rfl
  omega
set_option maxRecDepth 100000 in
/-- A commit that comes in. -/
theorem commit_of {r : Reach} {b0 : Nat} {v : Value} {d : DataW H} {p : List MemPlace} (hv : Value.okWide Try.prog w r b0 64 v) (h : DataW.Trod enc Try.prog w base spare held 64 v d p) :
    ∃ (t : Int) (u : Value) (ws : List Wri), v = .agg #[.int .i64 t, u] ∧ (Lit.int .i64 t).wf = true ∧ Rd3 w u (ws.map wV) ∧ ws.length + 1 ≤ Rows.uptoBulk d ∧ ∀ y ∈ ws, y.key.length + y.val.length ≤ Rows.uptoBulk d := by
  obtain ⟨c0, c1, y0, y1, n, rfl, rfl, rfl, h0, h1⟩ := open_agg2 Try.underlying64 (by kernel_rfl) cells64 hv h
  obtain ⟨t, hs0, rfl, g0⟩ := DataW.trod_int (k := .i64) (by kernel_rfl) h0
  obtain ⟨u, ws, hs1, hr, hb, hm⟩ := writes_of h1
  simp only [List.cons.injEq, and_true] at hs0 hs1
  subst hs0 hs1
  refine ⟨t, _, ws, rfl, g0, hr, ?_, fun y hy => ?_⟩
  · simp only [Rows.uptoBulk, Rows.uptoBulkAll]; omega
  · have := hm y hy
    simp only [Rows.uptoBulk, Rows.uptoBulkAll]; omega
set_option maxRecDepth 100000 in
/-- A manifest that comes in. -/
theorem manifest_of {r : Reach} {b0 : Nat} {v : Value} {d : DataW H} {p : List MemPlace} (hv : Value.okWide Try.prog w r b0 74 v) (h : DataW.Trod enc Try.prog w base spare held 74 v d p) :
    ∃ (t g : Int) (u : Value) (ps : List Pai), v = .agg #[.int .i64 t, .int .i64 g, u] ∧ (Lit.int .i64 t).wf = true ∧ (Lit.int .i64 g).wf = true ∧ Rd3 w u (ps.map pV) ∧ ps.length + 1 ≤ Rows.uptoBulk d ∧ ∀ p ∈ ps, (Lit.int .i64 p.num).wf = true ∧ (Lit.int .i64 p.from_).wf = true ∧ (Lit.int .i64 p.to_).wf = true := by
  obtain ⟨c0, c1, c2, y0, y1, y2, n, rfl, rfl, rfl, h0, h1, h2⟩ := open_agg3 Try.underlying74 (by kernel_rfl) cells74 hv h
  obtain ⟨t, hs0, rfl, g0⟩ := DataW.trod_int (k := .i64) (by kernel_rfl) h0
  obtain ⟨g, hs1, rfl, g1⟩ := DataW.trod_int (k := .i64) (by kernel_rfl) h1
  obtain ⟨u, ps, hs2, hr, hb, hm⟩ := pairs_of h2
  simp only [List.cons.injEq, and_true] at hs0 hs1 hs2
  subst hs0 hs1 hs2
  refine ⟨t, g, _, ps, rfl, g0, g1, hr, ?_, hm⟩
  simp only [Rows.uptoBulk, Rows.uptoBulkAll]; omega
end
end Go.Proofs.Ytggjipfdfpdecaa

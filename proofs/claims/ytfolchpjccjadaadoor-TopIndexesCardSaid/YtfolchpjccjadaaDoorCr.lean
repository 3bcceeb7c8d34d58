/- The sum CRC-32: plain, and the walk of num's Crc; keys as strings; which texts may be keys. -/
import Derived.Test.YtfolchpjccjadaaDoorZ01
import Derived.Deep.LoopGhost
import Derived.Laws.BytesArg
import Derived.BigQuiet
namespace Go.Proofs.YtfolchpjccjadaaDoor
open Go.RowKit
set_option linter.unusedVariables false

/-- A byte as a value; bytes as cells. -/
def bv (b : UInt8) : Value := .int .u8 (b.toNat : Int)
def bvs (l : List UInt8) : List Value := l.map bv
theorem bvs_length (l : List UInt8) : (bvs l).length = l.length := by simp [bvs]
/-- The value v reads as the bytes l. -/
def RdB (w : World) (v : Value) (l : List UInt8) : Prop :=
  ∃ A c, v = .slice A l.length c ∧ l.length ≤ c ∧ c ≤ maxLen ∧ (0 < l.length → ∃ ad : Addr, A = some ad ∧ ∀ j (h : j < l.length), w.cell? (ad.add j) = some (bv l[j]))

theorem RdB.nil (w : World) : RdB w (.slice none 0 0) [] := ⟨none, 0, rfl, Nat.le_refl _, by simp [maxLen], fun h => by simp at h⟩

theorem bv_nat (b : UInt8) : bv b = Value.int .u8 (b.toNat : Int) := rfl
def crcPoly : BitVec 32 := 0xEDB88320#32
/-- One bit. -/
def crcBit (c : BitVec 32) : BitVec 32 := (c >>> 1) ^^^ (if c.getLsbD 0 then crcPoly else 0#32)
/-- k bits. -/
def crcBits : Nat → BitVec 32 → BitVec 32
  | 0, c => c
  | k + 1, c => crcBit (crcBits k c)
/-- One byte. -/
def crcByte (c : BitVec 32) (b : UInt8) : BitVec 32 := crcBits 8 (c ^^^ b.toBitVec.zeroExtend 32)
/-- Bytes, from a state on. -/
def crcGo (c : BitVec 32) (l : List UInt8) : BitVec 32 := l.foldl crcByte c
def crcInit : BitVec 32 := BitVec.allOnes 32
/-- The sum. -/
def crc (l : List UInt8) : BitVec 32 := ~~~ (crcGo crcInit l)

theorem crcGo_append (c : BitVec 32) (l r : List UInt8) : crcGo c (l ++ r) = crcGo (crcGo c l) r := by simp [crcGo]
theorem crcGo_snoc (c : BitVec 32) (l : List UInt8) (b : UInt8) : crcGo c (l ++ [b]) = crcByte (crcGo c l) b := by simp [crcGo]

/-- The value v reads as the rows of bytes ls. -/
def RdBs (w : World) (v : Value) (ls : List (List UInt8)) : Prop :=
  ∃ A c, v = .slice A ls.length c ∧ ls.length ≤ c ∧ c ≤ maxLen ∧ (0 < ls.length → ∃ ad : Addr, A = some ad ∧ ∀ j (h : j < ls.length), ∃ u, w.cell? (ad.add j) = some u ∧ RdB w u ls[j])

theorem u32_ofInt (c : BitVec 32) : BitVec.ofInt 32 (c.toNat : Int) = c := by
  apply BitVec.eq_of_toNat_eq
  simp

theorem u32_xor_bv (c d : BitVec 32) : bits .xor .u32 (c.toNat : Int) (d.toNat : Int) = ((c ^^^ d).toNat : Int) := by
  show IntKind.u32.wrap ((BitVec.ofInt 32 (c.toNat : Int) ^^^ BitVec.ofInt 32 (d.toNat : Int)).toNat : Int) = _
  rw [u32_ofInt, u32_ofInt]
  have := (c ^^^ d).isLt
  rw [IntKind.wrap_u32, Int.emod_eq_of_lt (by omega) (by omega)]

theorem u32_and_bv (c d : BitVec 32) : bits .and .u32 (c.toNat : Int) (d.toNat : Int) = ((c &&& d).toNat : Int) := by
  show IntKind.u32.wrap ((BitVec.ofInt 32 (c.toNat : Int) &&& BitVec.ofInt 32 (d.toNat : Int)).toNat : Int) = _
  rw [u32_ofInt, u32_ofInt]
  have := (c &&& d).isLt
  rw [IntKind.wrap_u32, Int.emod_eq_of_lt (by omega) (by omega)]

theorem crc_half (d : BitVec 32) : ((d.toNat : Int) / (2 : Int)) = ((d >>> 1).toNat : Int) := by
  rw [BitVec.toNat_ushiftRight, Nat.shiftRight_eq_div_pow]
  omega

theorem crc_bit (d : BitVec 32) :
    bits .xor .u32 ((d.toNat : Int) / 2) (bits .and .u32 3988292384 (-bits .and .u32 (d.toNat : Int) 1 % 4294967296)) = ((crcBit d).toNat : Int) := by
  have h1 : bits .and .u32 (d.toNat : Int) 1 = ((d &&& 1#32).toNat : Int) := u32_and_bv d 1#32
  rw [h1, crc_half]
  unfold crcBit
  cases hb : d.getLsbD 0 with
  | false =>
    have hb' : d[0] = false := by simpa using hb
    have h2 : d &&& 1#32 = 0#32 := by
      apply BitVec.eq_of_getLsbD_eq
      intro i hi
      rcases i with _ | i
      · simp [hb']
      · simp
    rw [h2]
    have h3 : bits .and .u32 3988292384 (-((0#32 : BitVec 32).toNat : Int) % 4294967296) = ((0#32 : BitVec 32).toNat : Int) := by decide +kernel
    rw [h3, u32_xor_bv]
    simp
  | true =>
    have hb' : d[0] = true := by simpa using hb
    have h2 : d &&& 1#32 = 1#32 := by
      apply BitVec.eq_of_getLsbD_eq
      intro i hi
      rcases i with _ | i
      · simp [hb']
      · simp
    rw [h2]
    have h3 : bits .and .u32 3988292384 (-((1#32 : BitVec 32).toNat : Int) % 4294967296) = ((crcPoly : BitVec 32).toNat : Int) := by decide +kernel
    rw [h3, u32_xor_bv]
    simp

theorem crc_not (d : BitVec 32) : bits .xor .u32 IntKind.u32.max (d.toNat : Int) = ((~~~d).toNat : Int) := by
  have h : IntKind.u32.max = (((BitVec.allOnes 32).toNat : Nat) : Int) := by decide +kernel
  rw [h, u32_xor_bv, BitVec.allOnes_xor]

theorem u8_ext (b : UInt8) : ((b.toBitVec.zeroExtend 32).toNat) = b.toNat := by
  have := b.toNat_lt
  simp [BitVec.toNat_setWidth]

theorem crc_in (c : BitVec 32) (b : UInt8) : bits .xor .u32 (c.toNat : Int) ((b.toNat : Int) % 4294967296) = ((c ^^^ b.toBitVec.zeroExtend 32).toNat : Int) := by
  rw [← u32_xor_bv, u8_ext]
  have := b.toNat_lt
  rw [Int.emod_eq_of_lt (by omega) (by omega)]

set_option maxRecDepth 100000 in
set_option maxHeartbeats 400000 in
theorem crc_any (v : Value) (ls : List (List UInt8)) (w : World) (hr : RdBs w v ls) :
    Calls Tryd.prog 40 #[v] w fun e w' => e = .returned (.int .u32 ((crc ls.flatten).toNat : Int)) ∧ w = w' := by
  obtain ⟨A, c, rfl, hc1, hc2, hcell⟩ := hr
  have HC := Lib.hid hcell; clear hcell
  have hm : ls.length ≤ 9223372036854775807 := by simp only [maxLen] at hc2; omega
  clear hc1 hc2
  go_enter Tryd.func40, Tryd.ntmps40
  go_wp2
  go_loop [3, 10] (fun c i => ∃ k : Nat, k ≤ ls.length ∧ i = .int .i64 k ∧ c = .int .u32 ((crcGo crcInit (ls.take k).flatten).toNat : Int)) (fun _ i => ls.length - (intOf i).toNat)
  case atStart => exact ⟨0, Nat.zero_le _, rfl, rfl⟩
  case round =>
    obtain ⟨k, hk, rfl, rfl⟩ := hrel
    by_cases h : k < ls.length
    · obtain ⟨ad, hA, hcells⟩ := HC.out (by omega)
      obtain ⟨u, hcu, hru⟩ := hcells k h
      obtain ⟨A', c', hu, hu1, hu2, hucell⟩ := hru
      subst hA hu
      have HU := Lib.hid hucell; clear hucell
      have hm' : ls[k].length ≤ 9223372036854775807 := by simp only [maxLen] at hu2; omega
      clear hu1 hu2
      obtain ⟨c0, hc0⟩ : ∃ c0, c0 = crcGo crcInit (ls.take k).flatten := ⟨_, rfl⟩
      rw [← hc0]
      have HC0 := Lib.hid hc0; clear hc0
      obtain ⟨l, hl⟩ : ∃ l, l = ls[k] := ⟨_, rfl⟩
      rw [← hl] at hcu HU hm'
      have HL := Lib.hid hl; clear hl
      go_wp2
      go_loop [3, 16] (fun c i => ∃ j : Nat, j ≤ l.length ∧ i = .int .i64 j ∧ c = .int .u32 ((crcGo c0 (l.take j)).toNat : Int)) (fun _ i => l.length - (intOf i).toNat)
      case atStart => exact ⟨0, Nat.zero_le _, rfl, rfl⟩
      case round =>
        obtain ⟨j, hj, rfl, rfl⟩ := hrel
        by_cases h2 : j < l.length
        · obtain ⟨ad', hA', hcells'⟩ := HU.out (by omega)
          subst hA'
          have hcj := hcells' j h2
          rw [bv_nat] at hcj
          clear hcells' hcells
          obtain ⟨c1, hc1⟩ : ∃ c1, c1 = crcGo c0 (l.take j) := ⟨_, rfl⟩
          rw [← hc1]
          have HC1 := Lib.hid hc1; clear hc1
          go_wp2
          go_loop [3, 24] (fun c i => ∃ q : Nat, q ≤ 8 ∧ i = .int .i64 q ∧ c = .int .u32 ((crcBits q (c1 ^^^ l[j].toBitVec.zeroExtend 32)).toNat : Int)) (fun _ i => 8 - (intOf i).toNat)
          case atStart => exact ⟨0, by omega, rfl, by rw [crc_in]; rfl⟩
          case round =>
            obtain ⟨q, hq, rfl, rfl⟩ := hrel
            obtain ⟨d, hd⟩ : ∃ d, d = crcBits q (c1 ^^^ l[j].toBitVec.zeroExtend 32) := ⟨_, rfl⟩
            rw [← hd]
            have HD := Lib.hid hd; clear hd
            by_cases h3 : q < 8
            · go_wp2
              go_round
              case rel => exact ⟨q + 1, by omega, by go_num, by rw [crc_bit, HD.out]; rfl⟩
              case measure => simp [intOf]; omega
            · go_wp2
              go_round
              case rel =>
                obtain rfl : q = 8 := by omega
                refine ⟨j + 1, by omega, by go_num, ?_⟩
                rw [HD.out, HC1.out, List.take_succ_eq_append_getElem h2, crcGo_snoc]
                rfl
              case measure => simp [intOf]; omega
        · go_wp2
          go_round
          case rel =>
            obtain rfl : j = l.length := by omega
            refine ⟨k + 1, by omega, by go_num, ?_⟩
            rw [HC0.out, List.take_length, List.take_succ_eq_append_getElem h, List.flatten_append, crcGo_append, HL.out]
            simp
          case measure => simp [intOf]; omega
    · go_wp2
      go_ret
      obtain rfl : k = ls.length := by omega
      exact ⟨by rw [crc_not, List.take_length]; rfl, rfl⟩

/-- Bytes as a string. -/
def bs (l : List UInt8) : ByteArray := ⟨l.toArray⟩
theorem bs_inj {l r : List UInt8} (h : bs l = bs r) : l = r := by
  have := congrArg (fun s : ByteArray => s.data.toList) h
  simpa [bs] using this
theorem bs_data (l : List UInt8) : (bs l).data.toList = l := rfl
theorem bs_size (l : List UInt8) : (bs l).size = l.length := by simp [bs, ByteArray.size]
theorem bs_list (l : List UInt8) : (bs l).toList = l := (ByteArray.toList_eq _).trans rfl
theorem bs_of (s : ByteArray) : bs s.data.toList = s := rfl

attribute [local go_sem] bs_list bs_size
def isKey (l : List UInt8) : Bool := decide (1 ≤ l.length ∧ l.length ≤ 16)
theorem isKey_iff (l : List UInt8) : isKey l = true ↔ 1 ≤ l.length ∧ l.length ≤ 16 := by unfold isKey; exact decide_eq_true_iff
theorem ret_bool {b c : Bool} (h : b = c) : Ending.returned (.bool b) = .returned (.bool c) := by rw [h]
theorem isKey_any (l : List UInt8) (w : World) (hl : l.length ≤ 140737488355328) :
    Calls Tryd.prog 39 #[.string (bs l)] w fun e w' => e = .returned (.bool (isKey l)) ∧ w = w' := by
  go_enter Tryd.func39, Tryd.ntmps39
  go_wp2
  all_goals
    go_ret
    refine ⟨ret_bool ?_, rfl⟩
    rw [Bool.eq_iff_iff, isKey_iff]
    constructor
    · intro h
      simp at h <;> (cases l) <;> (try simp_all) <;> (try omega)
    · intro h
      simp <;> (cases l) <;> (try simp_all) <;> (try omega)
theorem skIsKey_any (l : List UInt8) (w : World) (hl : l.length ≤ 140737488355328) :
    Calls Tryd.prog 33 #[.string (bs l)] w fun e w' => e = .returned (.bool (isKey l)) ∧ w = w' := by
  go_enter Tryd.func33, Tryd.ntmps33
  go_wp2
  all_goals
    go_ret
    refine ⟨ret_bool ?_, rfl⟩
    rw [Bool.eq_iff_iff, isKey_iff]
    constructor
    · intro h
      simp at h <;> (cases l) <;> (try simp_all) <;> (try omega)
    · intro h
      simp <;> (cases l) <;> (try simp_all) <;> (try omega)
theorem refIsKey_any (l : List UInt8) (w : World) (hl : l.length ≤ 140737488355328) :
    Calls Tryd.prog 12 #[.string (bs l)] w fun e w' => e = .returned (.bool (isKey l)) ∧ w = w' := by
  go_enter Tryd.func12, Tryd.ntmps12
  go_wp2
  all_goals
    go_ret
    refine ⟨ret_bool ?_, rfl⟩
    rw [Bool.eq_iff_iff, isKey_iff]
    constructor
    · intro h
      simp at h <;> (cases l) <;> (try simp_all) <;> (try omega)
    · intro h
      simp <;> (cases l) <;> (try simp_all) <;> (try omega)
end Go.Proofs.YtfolchpjccjadaaDoor

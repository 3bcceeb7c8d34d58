/- Plain: the sum CRC-32 over bytes, bit by bit; no program in sight. -/
namespace Go.Proofs.Ytggjipfdfpdecaa

def crcPoly : BitVec 32 := 0xEDB88320#32
/-- One bit. -/
def crcBit (c : BitVec 32) : BitVec 32 := (c >>> 1) ^^^ (if c.getLsbD 0 then crcPoly else 0#32)
/-- k bits. -/
def crcBits : Nat → BitVec 32 → BitVec 32
  | 0, c => c
  | k + 1, c => crcBit (crcBits k c)
/-- One byte. -/
def crcByte (c : BitVec 32) (b : UInt8) : BitVec 32 := crcBits 8 (c ^^^ b.toBitVec.zeroExtend 32)
/-- Bytes, from a state on. -/
def crcGo (c : BitVec 32) (l : List UInt8) : BitVec 32 := l.foldl crcByte c
def crcInit : BitVec 32 := BitVec.allOnes 32
/-- The sum. -/
def crc (l : List UInt8) : BitVec 32 := ~~~ (crcGo crcInit l)

theorem crcGo_append (c : BitVec 32) (l r : List UInt8) : crcGo c (l ++ r) = crcGo (crcGo c l) r := by simp [crcGo]
theorem crcGo_snoc (c : BitVec 32) (l : List UInt8) (b : UInt8) : crcGo c (l ++ [b]) = crcByte (crcGo c l) b := by simp [crcGo]

theorem crcBit_top (c : BitVec 32) : (crcBit c).getLsbD 31 = c.getLsbD 0 := by
  unfold crcBit
  rw [BitVec.getLsbD_xor, BitVec.getLsbD_ushiftRight]
  have h1 : c.getLsbD (1 + 31) = false := BitVec.getLsbD_of_ge c _ (by omega)
  rw [h1]
  cases h : c.getLsbD 0
  · simp
  · simp [crcPoly]

theorem crcBit_inj {c d : BitVec 32} (h : crcBit c = crcBit d) : c = d := by
  have h0 : c.getLsbD 0 = d.getLsbD 0 := by rw [← crcBit_top, ← crcBit_top, h]
  unfold crcBit at h
  rw [h0] at h
  have h1 : c >>> 1 = d >>> 1 := by
    have := congrArg (fun x => x ^^^ (if d.getLsbD 0 = true then crcPoly else 0#32)) h
    simpa [BitVec.xor_assoc] using this
  apply BitVec.eq_of_getLsbD_eq
  intro i hi
  rcases i with _ | i
  · exact h0
  · have := congrArg (fun x => x.getLsbD i) h1
    simp only [BitVec.getLsbD_ushiftRight] at this
    rw [Nat.add_comm i 1]
    exact this

theorem crcBits_inj {c d : BitVec 32} : ∀ k, crcBits k c = crcBits k d → c = d
  | 0, h => h
  | k + 1, h => crcBits_inj k (crcBit_inj h)

theorem xor_cancel_left {c a b : BitVec 32} (h : c ^^^ a = c ^^^ b) : a = b := by
  have := congrArg (fun x => c ^^^ x) h
  simpa [← BitVec.xor_assoc] using this
theorem xor_cancel_right {c a b : BitVec 32} (h : a ^^^ c = b ^^^ c) : a = b := by
  rw [BitVec.xor_comm a, BitVec.xor_comm b] at h
  exact xor_cancel_left h

theorem ext8_inj {a b : UInt8} (h : a.toBitVec.zeroExtend 32 = b.toBitVec.zeroExtend 32) : a = b := by
  have h1 := congrArg BitVec.toNat h
  simp [BitVec.toNat_setWidth] at h1
  have ha := a.toNat_lt
  have hb := b.toNat_lt
  apply UInt8.toNat_inj.1
  omega

theorem crcByte_inj {c d : BitVec 32} {b : UInt8} (h : crcByte c b = crcByte d b) : c = d := xor_cancel_right (crcBits_inj 8 h)
theorem crcByte_ne {c : BitVec 32} {a b : UInt8} (h : crcByte c a = crcByte c b) : a = b := ext8_inj (xor_cancel_left (crcBits_inj 8 h))

theorem crcGo_inj {c d : BitVec 32} : ∀ l, crcGo c l = crcGo d l → c = d := by
  intro l
  induction l generalizing c d with
  | nil => exact fun h => h
  | cons b l ih => exact fun h => crcByte_inj (ih h)

theorem crc_not_inj {c d : BitVec 32} (h : ~~~c = ~~~d) : c = d := by
  have := congrArg (fun x => ~~~x) h
  simpa using this

/-- One byte that is another one turns the sum. -/
theorem crc_turn (l r : List UInt8) (a b : UInt8) (hab : a ≠ b) : crc (l ++ a :: r) ≠ crc (l ++ b :: r) := by
  intro h
  have h1 := crc_not_inj h
  simp only [crcGo, List.foldl_append, List.foldl_cons] at h1
  exact hab (crcByte_ne (crcGo_inj r h1))

/-! the sum is linear -/
theorem crcBit_xor (c d : BitVec 32) : crcBit (c ^^^ d) = crcBit c ^^^ crcBit d := by
  apply BitVec.eq_of_getLsbD_eq
  intro i hi
  unfold crcBit
  simp only [BitVec.getLsbD_xor, BitVec.getLsbD_ushiftRight]
  cases c.getLsbD 0 <;> cases d.getLsbD 0 <;> simp <;> cases c.getLsbD (1 + i) <;> cases d.getLsbD (1 + i) <;> cases crcPoly.getLsbD i <;> rfl
theorem crcBits_xor (c d : BitVec 32) : ∀ k, crcBits k (c ^^^ d) = crcBits k c ^^^ crcBits k d
  | 0 => rfl
  | k + 1 => by rw [crcBits, crcBits_xor c d k, crcBit_xor]; rfl

end Go.Proofs.Ytggjipfdfpdecaa

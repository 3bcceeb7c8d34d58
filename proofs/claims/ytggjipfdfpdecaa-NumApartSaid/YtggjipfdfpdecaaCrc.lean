/- Plain: the sum CRC-32 over bytes, bit by bit; no program in sight. -/
namespace Go.Proofs.Ytggjipfdfpdecaa

def crcPoly : BitVec 32 := 0xEDB88320#32
/-- One bit. -/
def crcBit (c : BitVec 32) : BitVec 32 := (c >>> 1) ^^^ (if c.getLsbD 0 then crcPoly else 0#32)
/-- k bits. -/
def crcBits : Nat → BitVec 32 → BitVec 32
  | 0, c => c
  | k + 1, c => crcBit (crcBits k c)
/-- One byte. -/
def crcByte (c : BitVec 32) (b : UInt8) : BitVec 32 := crcBits 8 (c ^^^ b.toBitVec.zeroExtend 32)
/-- Bytes, from a state on. -/
def crcGo (c : BitVec 32) (l : List UInt8) : BitVec 32 := l.foldl crcByte c
def crcInit : BitVec 32 := BitVec.allOnes 32
/-- The sum. -/
def crc (l : List UInt8) : BitVec 32 := ~~~ (crcGo crcInit l)

theorem crcGo_append (c : BitVec 32) (l r : List UInt8) : crcGo c (l ++ r) = crcGo (crcGo c l) r := by simp [crcGo]
theorem crcGo_snoc (c : BitVec 32) (l : List UInt8) (b : UInt8) : crcGo c (l ++ [b]) = crcByte (crcGo c l) b := by simp [crcGo]

end Go.Proofs.Ytggjipfdfpdecaa

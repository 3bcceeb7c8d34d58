/- Texts merged: Cuts, Crc, FrP, FrA, Whole. Each says below what it proves. -/
import Derived.Test.YtggjipfdfpdecaaZ01
import Derived.Laws.BytesArg
import Derived.Deep.QuietTactic
import Derived.BigQuiet
import Derived.Laws.MakeOwn
import Derived.Laws.OwnMore
import Derived.Laws.CopyOwn
import Derived.Laws.CopyRow
/- Cuts of a slice of bytes, and a slice of bytes as a string. -/
namespace Go.Proofs.Ytggjipfdfpdecaa
open Go.RowKit

/-- Bytes as a string. -/
def bs (l : List UInt8) : ByteArray := ⟨l.toArray⟩
theorem bs_inj {l r : List UInt8} (h : bs l = bs r) : l = r := by
  have := congrArg (fun s : ByteArray => s.data.toList) h
  simpa [bs] using this
theorem bs_data (l : List UInt8) : (bs l).data.toList = l := rfl
theorem bs_size (l : List UInt8) : (bs l).size = l.length := by simp [bs, ByteArray.size]
theorem bs_list (l : List UInt8) : (bs l).toList = l := (ByteArray.toList_eq _).trans rfl
theorem bs_of (s : ByteArray) : bs s.data.toList = s := rfl

theorem conv_rd {w : World} {v : Value} {l : List UInt8} (h : RdB w v l) : (convert 25 9 v).run Try.prog w = .ok (.string (bs l)) w := by
  obtain ⟨A, c, rfl, h1, h2, h3⟩ := h
  rcases A with _ | ad
  · have : l = [] := by
      rcases l with _ | ⟨x, l⟩
      · rfl
      · obtain ⟨ad, hA, _⟩ := h3 (by simp)
        cases hA
    subst this
    exact run_convert_bytes_nil w 25 5 Try.underlying25 Try.underlying5 0 c 9 Try.underlying9
  · have hl : (loadCells ad l.length).run Try.prog w = .ok ((l.map fun b => (b.toNat : Int)).map (Value.int .u8)).toArray w := by
      have := run_loadCells_list (P := Try.prog) w ad ((l.map fun b => (b.toNat : Int)).map (Value.int .u8)) (fun j v hj => by
        have hjl : j < l.length := by
          rcases Nat.lt_or_ge j l.length with h | h
          · exact h
          · simp [List.getElem?_eq_none h] at hj
        obtain ⟨ad', hA, hc⟩ := h3 (by omega)
        obtain rfl : ad = ad' := Option.some.inj hA
        rw [hc j hjl]
        simp [List.getElem?_eq_getElem hjl] at hj
        subst hj
        rfl)
      simpa using this
    rw [run_convert_bytes_string w 25 9 5 _ l.length c Try.underlying25 Try.underlying5 Try.underlying9, run_bytesToString w _ l.length c _ hl, foldl_push_bytes]
    congr 2
    simp [bs, ByteArray.empty, ByteArray.emptyWithCapacity, Function.comp_def]
    rfl

theorem add_of_add (a : Addr) (i j : Nat) : (a.add i).add j = a.add (i + j) := by
  unfold Addr.add
  by_cases h1 : i = 0 <;> by_cases h2 : j = 0 <;> simp [h1, h2, Nat.add_assoc]

theorem cut_lh (A : Option Addr) (c : Nat) (l : List UInt8) (lo hi : Int) (h0 : 0 ≤ lo) (h1 : lo ≤ hi) (h2 : hi ≤ l.length) (hc : l.length ≤ c) :
    ∃ (r : List UInt8) (A' : Option Addr) (c' : Nat), r = (l.take hi.toNat).drop lo.toNat ∧
      (∀ W : World, (Instr.slice 25 (.slice A l.length c) (some (.int .i64 lo)) (some (.int .i64 hi)) none).run Try.prog W = .ok (.slice A' r.length c') W) ∧
      (∀ w : World, RdB w (.slice A l.length c) l → RdB w (.slice A' r.length c') r) := by
  have hr : ((l.take hi.toNat).drop lo.toNat).length = hi.toNat - lo.toNat := by rw [List.length_drop, List.length_take]; omega
  refine ⟨_, if c = lo.toNat then A else A.map (·.add lo.toNat), c - lo.toNat, rfl, fun W => ?_, fun w h => ?_⟩
  · obtain ⟨i0, hi0, _, hsz, _⟩ := info_parts info5
    have hel : Try.prog.elem 25 = 5 := by simp [Program.elem, Try.underlying25]
    have hu : Try.prog.underlying 25 = some (.slice (Try.prog.elem 25)) := by rw [hel]; exact Try.underlying25
    rw [run_slice_lh W 25 A l.length c hu .i64 .i64 lo hi h0 h1 (by omega), hel, hr]
    simp [sizeOf, typeInfo, hi0, hsz, sliced, Result.andThen]
  · obtain ⟨A1, c1, he, hc1, hm, hcell⟩ := h
    injection he with e1 e2 e3
    subst e1; subst e3
    refine ⟨_, _, rfl, by rw [hr]; omega, by omega, fun hp => ?_⟩
    rw [hr] at hp
    obtain ⟨ad, rfl, hcells⟩ := hcell (by omega)
    rw [if_neg (by omega)]
    refine ⟨ad.add lo.toNat, rfl, fun j hj => ?_⟩
    rw [hr] at hj
    rw [add_of_add, hcells (lo.toNat + j) (by omega)]
    simp

theorem cut_h (A : Option Addr) (c : Nat) (l : List UInt8) (hi : Int) (h1 : 0 ≤ hi) (h2 : hi ≤ l.length) (hc : l.length ≤ c) :
    ∃ (r : List UInt8), r = l.take hi.toNat ∧
      (∀ W : World, (Instr.slice 25 (.slice A l.length c) none (some (.int .i64 hi)) none).run Try.prog W = .ok (.slice A r.length c) W) ∧
      (∀ w : World, RdB w (.slice A l.length c) l → RdB w (.slice A r.length c) r) := by
  have hr : (l.take hi.toNat).length = hi.toNat := by rw [List.length_take]; omega
  refine ⟨_, rfl, fun W => ?_, fun w h => ?_⟩
  · obtain ⟨i0, hi0, _, hsz, _⟩ := info_parts info5
    have hel : Try.prog.elem 25 = 5 := by simp [Program.elem, Try.underlying25]
    have hu : Try.prog.underlying 25 = some (.slice (Try.prog.elem 25)) := by rw [hel]; exact Try.underlying25
    have ha : (A.map fun x => x.add 0) = A := by cases A <;> simp [Addr.add]
    rw [run_slice_h W 25 A l.length c hu .i64 hi h1 (by omega), hel, hr]
    simp [sizeOf, typeInfo, hi0, hsz, sliced, Result.andThen, ha]
  · obtain ⟨A1, c1, he, hc1, hm, hcell⟩ := h
    injection he with e1 e2 e3
    subst e1; subst e3
    refine ⟨_, _, rfl, by rw [hr]; omega, by omega, fun hp => ?_⟩
    rw [hr] at hp
    obtain ⟨ad, rfl, hcells⟩ := hcell (by omega)
    refine ⟨ad, rfl, fun j hj => ?_⟩
    rw [hr] at hj
    rw [hcells j (by omega)]
    simp

theorem cut_l (A : Option Addr) (c : Nat) (l : List UInt8) (lo : Int) (h0 : 0 ≤ lo) (h2 : lo ≤ l.length) (hc : l.length ≤ c) :
    ∃ (r : List UInt8) (A' : Option Addr) (c' : Nat), r = l.drop lo.toNat ∧
      (∀ W : World, (Instr.slice 25 (.slice A l.length c) (some (.int .i64 lo)) none none).run Try.prog W = .ok (.slice A' r.length c') W) ∧
      (∀ w : World, RdB w (.slice A l.length c) l → RdB w (.slice A' r.length c') r) := by
  have hr : (l.drop lo.toNat).length = l.length - lo.toNat := by rw [List.length_drop]
  refine ⟨_, if c = lo.toNat then A else A.map (·.add lo.toNat), c - lo.toNat, rfl, fun W => ?_, fun w h => ?_⟩
  · obtain ⟨i0, hi0, _, hsz, _⟩ := info_parts info5
    have hel : Try.prog.elem 25 = 5 := by simp [Program.elem, Try.underlying25]
    have hu : Try.prog.underlying 25 = some (.slice (Try.prog.elem 25)) := by rw [hel]; exact Try.underlying25
    rw [run_slice_l W 25 A l.length c hu .i64 lo h0 (by omega), hel, hr]
    simp [sizeOf, typeInfo, hi0, hsz, sliced, Result.andThen]
  · obtain ⟨A1, c1, he, hc1, hm, hcell⟩ := h
    injection he with e1 e2 e3
    subst e1; subst e3
    refine ⟨_, _, rfl, by rw [hr]; omega, by omega, fun hp => ?_⟩
    rw [hr] at hp
    obtain ⟨ad, rfl, hcells⟩ := hcell (by omega)
    rw [if_neg (by omega)]
    refine ⟨ad.add lo.toNat, rfl, fun j hj => ?_⟩
    rw [hr] at hj
    rw [add_of_add, hcells (lo.toNat + j) (by omega)]
    simp

theorem below_drewN {B : Nat} {w w' : World} (h : Below B w w') (n : Nat) : Below B w (w'.drewN n) := ⟨h.os, h.tape, h.output, h.size, h.block⟩
theorem u64_of {n : Int} (h : (Lit.int .u64 n).wf = true) : ∃ k : Nat, n = (k : Int) ∧ k < 18446744073709551616 := by
  simp [Lit.wf, IntKind.min, IntKind.max, IntKind.signed, IntKind.bits] at h
  exact ⟨n.toNat, by omega, by omega⟩
theorem u8_of {n : Int} (h : (Lit.int .u8 n).wf = true) : ∃ b : UInt8, n = (b.toNat : Int) := by
  simp [Lit.wf, IntKind.min, IntKind.max, IntKind.signed, IntKind.bits] at h
  refine ⟨UInt8.ofNat n.toNat, ?_⟩
  rw [UInt8.toNat_ofNat']
  omega
theorem i64_of {n : Int} (h : (Lit.int .i64 n).wf = true) : -9223372036854775808 ≤ n ∧ n ≤ 9223372036854775807 := by
  simp [Lit.wf, IntKind.min, IntKind.max, IntKind.signed, IntKind.bits] at h
  omega

theorem xor_bv (a b : UInt8) : Value.int .u8 (bits .xor .u8 (a.toNat : Int) (b.toNat : Int)) = bv (a ^^^ b) := by
  rw [u8_xor_nat a.toNat b.toNat a.toNat_lt b.toNat_lt, bv, UInt8.toNat_xor]

/-! a row of the call's own: its shape, its cells, a store -/
theorem Own.form {w : World} {base : Nat} {v : Value} {l : List UInt8} (h : Own w base v l) (hp : 0 < l.length) : ∃ g cap, v = .slice (some ⟨g, 0, none⟩) l.length cap ∧ base ≤ g ∧ g < w.heap.size ∧ l.length ≤ cap ∧ cap ≤ maxLen := by
  rcases h.2 with ⟨_, h0⟩ | ⟨g, cap, cur, hv, hb, hg, h1, h2, _⟩
  · omega
  · exact ⟨g, cap, hv, hb, (Array.getElem?_eq_some_iff.1 hg).1, h1, h2⟩
theorem Own.at_ {w : World} {base g n cap : Nat} {l : List UInt8} (h : Own w base (.slice (some ⟨g, 0, none⟩) n cap) l) (i : Nat) (hi : i < l.length) :
    w.cell? ⟨g, i, none⟩ = some (bv l[i]) ∧ w.frozen? ⟨g, i, none⟩ = false := by
  constructor
  · have := World.ownsRow.cells h (g := g) rfl i _ (bvs_get l i hi)
    rwa [addp] at this
  · rcases h.2 with ⟨h', _⟩ | ⟨g', cap', cur, h', _, hh, _⟩
    · cases h'
    · have : g = g' := by injection h' with h'; injection h' with h'; injection h' with h'
      subst this
      simp [World.frozen?, hh]
theorem Own.set_ {w : World} {base g n cap : Nat} {l : List UInt8} (h : Own w base (.slice (some ⟨g, 0, none⟩) n cap) l) (i : Nat) (b : UInt8) :
    Own (w.setCell ⟨g, i, none⟩ (bv b)) base (.slice (some ⟨g, 0, none⟩) n cap) (l.set i b) ∧ Below base w (w.setCell ⟨g, i, none⟩ (bv b)) := by
  have hg := World.ownsRow.lt h g rfl
  have hn : n = l.length := by
    rcases h.2 with ⟨h', _⟩ | ⟨g', cap', cur, h', _⟩
    · cases h'
    · injection h'
  subst hn
  have hs := World.ownsRow.stored h i (bv b)
  refine ⟨?_, (Below.refl base w).setCell hg.1 _⟩
  unfold Own
  have he : (bvs l).set i (bv b) = bvs (l.set i b) := by simp [bvs, List.map_set]
  rw [List.length_set, ← he]
  exact hs.1
/-- make([]byte, 0, n) -/
theorem make_run (n : Nat) (hn : n ≤ 281474976710656) (W : World) :
    (Instr.makeSlice 25 (.int .i64 0) (.int .i64 (n : Int))).run Try.prog W = .ok (.slice (some ⟨W.heap.size, 0, none⟩) 0 n) (W.alloc (.cells (madeCells #[.int .u8 0] n) 5)) := by
  obtain ⟨i0, hi, hz0, hz1, hz2⟩ := info_parts info5
  have h := run_make (P := Try.prog) W 25 5 i0 (.int .u8 0) Try.underlying25 hi hz0 .i64 .i64 0 (n : Int) (by omega) (by omega) (by rw [hz2]; omega) (by omega)
  simpa [hz1, Value.cells] using h
theorem make_own (W : World) (base n : Nat) (hb : base ≤ W.heap.size) (hn : n ≤ 281474976710656) :
    Own (W.alloc (.cells (madeCells #[.int .u8 0] n) 5)) base (.slice (some ⟨W.heap.size, 0, none⟩) 0 n) [] :=
  World.ownsRow_made W _ n hb (by simp only [maxLen]; omega) (by simp [size_madeCells])

theorem RdB.drew {w : World} {v : Value} {l : List UInt8} (h : RdB w v l) : RdB w.drew v l := h
theorem RdB.drewN {w : World} {v : Value} {l : List UInt8} (h : RdB w v l) (n : Nat) : RdB (w.drewN n) v l := h

theorem lit_rd' (w : World) (l : List UInt8) (fr : Nat × Nat) (hl : l.length ≤ maxLen) : RdB (w.alloc (.cells (bvs l).toArray 5 fr)) (.slice (some ⟨w.heap.size, 0, none⟩) l.length l.length) l := by
  refine ⟨_, _, rfl, Nat.le_refl _, hl, fun _ => ⟨_, rfl, fun j hj => ?_⟩⟩
  rw [addp, World.cell?_alloc_mark]
  simpa using bvs_get l j hj

/-- The example at the head of the statements of layer 1. -/
theorem uvar_300 : ([7] : List UInt8) ++ uvar 300 = [7, 172, 2] := by
  rw [uvar_ge (by omega), uvar_lt (by omega)]
  rfl

set_option maxHeartbeats 400000 in
theorem shown_any (w : World) : Calls Try.prog 25 #[] w fun e w' => e = .returned (.bool true) ∧ Below w.heap.size w w' := by
  have h0 := put_any _ [7] 300 _ (lit_rd' w [7] (0, 0) (by simp [maxLen])) (by omega) (by simp)
  have h1 : (bvs [7]).toArray = #[.int .u8 7] := rfl
  rw [h1, uvar_300, World.size_alloc] at h0
  have H0 := Lib.hid h0; clear h0 h1
  go_enter Try.func25, Try.ntmps25
  go_wp2_with fail
  refine H0.out.mono ?_
  rintro e w1 ⟨v1, rfl, ho1, hb1⟩
  have hc := conv_rd ho1.rd
  have HB := Lib.hid hb1; clear hb1 ho1
  go_wp2_with fail
  go_ret
  exact ⟨by rw [bs_list]; rfl, ((Below.refl _ _).alloc (Nat.le_refl _) _).trans (HB.out.mono (by simp))⟩
end Go.Proofs.Ytggjipfdfpdecaa
/- Plain: the sum CRC-32 over bytes, bit by bit; no program in sight. -/
namespace Go.Proofs.Ytggjipfdfpdecaa

def crcPoly : BitVec 32 := 0xEDB88320#32
/-- One bit. -/
def crcBit (c : BitVec 32) : BitVec 32 := (c >>> 1) ^^^ (if c.getLsbD 0 then crcPoly else 0#32)
/-- k bits. -/
def crcBits : Nat → BitVec 32 → BitVec 32
  | 0, c => c
  | k + 1, c => crcBit (crcBits k c)
/-- One byte. -/
def crcByte (c : BitVec 32) (b : UInt8) : BitVec 32 := crcBits 8 (c ^^^ b.toBitVec.zeroExtend 32)
/-- Bytes, from a state on. -/
def crcGo (c : BitVec 32) (l : List UInt8) : BitVec 32 := l.foldl crcByte c
def crcInit : BitVec 32 := BitVec.allOnes 32
/-- The sum. -/
def crc (l : List UInt8) : BitVec 32 := ~~~ (crcGo crcInit l)

theorem crcGo_append (c : BitVec 32) (l r : List UInt8) : crcGo c (l ++ r) = crcGo (crcGo c l) r := by simp [crcGo]
theorem crcGo_snoc (c : BitVec 32) (l : List UInt8) (b : UInt8) : crcGo c (l ++ [b]) = crcByte (crcGo c l) b := by simp [crcGo]

theorem crcBit_top (c : BitVec 32) : (crcBit c).getLsbD 31 = c.getLsbD 0 := by
  unfold crcBit
  rw [BitVec.getLsbD_xor, BitVec.getLsbD_ushiftRight]
  have h1 : c.getLsbD (1 + 31) = false := BitVec.getLsbD_of_ge c _ (by omega)
  rw [h1]
  cases h : c.getLsbD 0
  · simp
  · simp [crcPoly]

theorem crcBit_inj {c d : BitVec 32} (h : crcBit c = crcBit d) : c = d := by
  have h0 : c.getLsbD 0 = d.getLsbD 0 := by rw [← crcBit_top, ← crcBit_top, h]
  unfold crcBit at h
  rw [h0] at h
  have h1 : c >>> 1 = d >>> 1 := by
    have := congrArg (fun x => x ^^^ (if d.getLsbD 0 = true then crcPoly else 0#32)) h
    simpa [BitVec.xor_assoc] using this
  apply BitVec.eq_of_getLsbD_eq
  intro i hi
  rcases i with _ | i
  · exact h0
  · have := congrArg (fun x => x.getLsbD i) h1
    simp only [BitVec.getLsbD_ushiftRight] at this
    rw [Nat.add_comm i 1]
    exact this

theorem crcBits_inj {c d : BitVec 32} : ∀ k, crcBits k c = crcBits k d → c = d
  | 0, h => h
  | k + 1, h => crcBits_inj k (crcBit_inj h)

theorem xor_cancel_left {c a b : BitVec 32} (h : c ^^^ a = c ^^^ b) : a = b := by
  have := congrArg (fun x => c ^^^ x) h
  simpa [← BitVec.xor_assoc] using this
theorem xor_cancel_right {c a b : BitVec 32} (h : a ^^^ c = b ^^^ c) : a = b := by
  rw [BitVec.xor_comm a, BitVec.xor_comm b] at h
  exact xor_cancel_left h

theorem ext8_inj {a b : UInt8} (h : a.toBitVec.zeroExtend 32 = b.toBitVec.zeroExtend 32) : a = b := by
  have h1 := congrArg BitVec.toNat h
  simp [BitVec.toNat_setWidth] at h1
  have ha := a.toNat_lt
  have hb := b.toNat_lt
  apply UInt8.toNat_inj.1
  omega

theorem crcByte_inj {c d : BitVec 32} {b : UInt8} (h : crcByte c b = crcByte d b) : c = d := xor_cancel_right (crcBits_inj 8 h)
theorem crcByte_ne {c : BitVec 32} {a b : UInt8} (h : crcByte c a = crcByte c b) : a = b := ext8_inj (xor_cancel_left (crcBits_inj 8 h))

theorem crcGo_inj {c d : BitVec 32} : ∀ l, crcGo c l = crcGo d l → c = d := by
  intro l
  induction l generalizing c d with
  | nil => exact fun h => h
  | cons b l ih => exact fun h => crcByte_inj (ih h)

theorem crc_not_inj {c d : BitVec 32} (h : ~~~c = ~~~d) : c = d := by
  have := congrArg (fun x => ~~~x) h
  simpa using this

/-- One byte that is another one turns the sum. -/
theorem crc_turn (l r : List UInt8) (a b : UInt8) (hab : a ≠ b) : crc (l ++ a :: r) ≠ crc (l ++ b :: r) := by
  intro h
  have h1 := crc_not_inj h
  simp only [crcGo, List.foldl_append, List.foldl_cons] at h1
  exact hab (crcByte_ne (crcGo_inj r h1))

/-! the sum is linear -/
theorem crcBit_xor (c d : BitVec 32) : crcBit (c ^^^ d) = crcBit c ^^^ crcBit d := by
  apply BitVec.eq_of_getLsbD_eq
  intro i hi
  unfold crcBit
  simp only [BitVec.getLsbD_xor, BitVec.getLsbD_ushiftRight]
  cases c.getLsbD 0 <;> cases d.getLsbD 0 <;> simp <;> cases c.getLsbD (1 + i) <;> cases d.getLsbD (1 + i) <;> cases crcPoly.getLsbD i <;> rfl
theorem crcBits_xor (c d : BitVec 32) : ∀ k, crcBits k (c ^^^ d) = crcBits k c ^^^ crcBits k d
  | 0 => rfl
  | k + 1 => by rw [crcBits, crcBits_xor c d k, crcBit_xor]; rfl

end Go.Proofs.Ytggjipfdfpdecaa
/- Plain: frames as bytes: how they are laid, how they are read; no program in sight. -/
namespace Go.Proofs.Ytggjipfdfpdecaa

def le : Nat → Nat → List UInt8
  | _, 0 => []
  | n, k + 1 => UInt8.ofNat (n % 256) :: le (n / 256) k
def unle : List UInt8 → Nat
  | [] => 0
  | c :: r => c.toNat + 256 * unle r

theorem le_len : ∀ (k n : Nat), (le n k).length = k
  | 0, _ => rfl
  | k + 1, n => by simp [le, le_len k]
theorem unle_le : ∀ (k n : Nat), n < 256 ^ k → unle (le n k) = n
  | 0, n, h => by simp [le, unle] at *; omega
  | k + 1, n, h => by
    rw [Nat.pow_succ] at h
    simp only [le, unle]
    rw [unle_le k (n / 256) (by omega), UInt8.toNat_ofNat']
    omega
theorem le_unle : ∀ (l : List UInt8), le (unle l) l.length = l
  | [] => rfl
  | c :: r => by
    have hc := c.toNat_lt
    simp only [List.length_cons, le, unle]
    have e1 : (c.toNat + 256 * unle r) % 256 = c.toNat := by omega
    have e2 : (c.toNat + 256 * unle r) / 256 = unle r := by omega
    rw [e1, e2, le_unle r, UInt8.ofNat_toNat]
theorem unle_lt : ∀ (l : List UInt8), unle l < 256 ^ l.length
  | [] => by simp [unle]
  | c :: r => by
    have hc := c.toNat_lt
    have := unle_lt r
    simp only [unle, List.length_cons, Nat.pow_succ]
    omega
theorem unle_append : ∀ (l r : List UInt8), unle (l ++ r) = unle l + 256 ^ l.length * unle r
  | [], r => by simp [unle]
  | c :: l, r => by
    simp only [List.cons_append, unle, List.length_cons, unle_append l r, Nat.pow_succ, Nat.mul_add]
    rw [Nat.mul_comm (256 ^ l.length) 256, Nat.mul_assoc]
    omega

/-! ### blocks -/
/-- The stream's bytes, a mark ahead of each 31 of them; k: how many stand ahead. -/
def lay : Nat → List UInt8 → List UInt8
  | _, [] => []
  | k, c :: r => if k % 31 = 0 then 0xB2 :: c :: lay (k + 1) r else c :: lay (k + 1) r

theorem lay_append : ∀ (l r : List UInt8) (k : Nat), lay k (l ++ r) = lay k l ++ lay (k + l.length) r
  | [], r, k => by simp [lay]
  | c :: l, r, k => by
    have e : k + (l.length + 1) = k + 1 + l.length := by omega
    simp only [List.cons_append, lay, lay_append l r (k + 1), List.length_cons, e]
    split <;> simp

theorem lay_plain : ∀ (l : List UInt8) (k : Nat), 1 ≤ k % 31 → k % 31 + l.length ≤ 31 → lay k l = l
  | [], _, _, _ => rfl
  | c :: r, k, h1, h2 => by
    simp only [lay, List.length_cons] at *
    rw [if_neg (by omega)]
    by_cases hr : r = []
    · subst hr; rfl
    · have : 1 ≤ r.length := by
        rcases r with _ | ⟨x, r⟩
        · exact absurd rfl hr
        · simp
      rw [lay_plain r (k + 1) (by omega) (by omega)]

theorem lay_block (k : Nat) (l : List UInt8) (hk : k % 31 = 0) (h1 : 1 ≤ l.length) (h2 : l.length ≤ 31) : lay k l = 0xB2 :: l := by
  rcases l with _ | ⟨c, r⟩
  · simp at h1
  · simp only [lay, if_pos hk]
    simp only [List.length_cons] at h2
    rw [lay_plain r (k + 1) (by omega) (by omega)]

theorem lay_mod : ∀ (l : List UInt8) (a b : Nat), a % 31 = b % 31 → lay a l = lay b l
  | [], _, _, _ => rfl
  | c :: r, a, b, h => by
    simp only [lay]
    rw [lay_mod r (a + 1) (b + 1) (by omega), h]

/-- How many bytes of nothing a stream of n bytes ends in. -/
def pads (n : Nat) : Nat := (31 - n % 31) % 31
def bl (n : Nat) : Nat := (n + 50) / 31
theorem pads_bl (n : Nat) : 20 + n + pads (20 + n) = 31 * bl n := by unfold pads bl; omega
theorem bl_pos (n : Nat) : 1 ≤ bl n := by unfold bl; omega
def padded (s : List UInt8) : List UInt8 := s ++ List.replicate (pads s.length) 0

theorem lay_len : ∀ (j : Nat) (l : List UInt8), l.length = 31 * j → (lay 0 l).length = 32 * j
  | 0, l, h => by
    obtain rfl := List.eq_nil_of_length_eq_zero (by omega : l.length = 0)
    rfl
  | j + 1, l, h => by
    have e : l = l.take (31 * j) ++ l.drop (31 * j) := by simp
    rw [e, lay_append]
    have h1 : (l.take (31 * j)).length = 31 * j := by rw [List.length_take]; omega
    have h2 : (l.drop (31 * j)).length = 31 := by rw [List.length_drop]; omega
    rw [List.length_append, lay_len j _ h1, lay_block _ _ (by omega) (by omega) (by omega)]
    simp [h2]; omega

/-! ### a frame -/
def hd (seq n : Nat) : List UInt8 := le seq 8 ++ le n 4
def hdc (seq n : Nat) : List UInt8 := hd seq n ++ le (crc (hd seq n)).toNat 4
def stream (seq : Nat) (body : List UInt8) : List UInt8 := hdc seq body.length ++ body ++ le (crc (hdc seq body.length ++ body)).toNat 4
def frameOf (seq : Nat) (body : List UInt8) : List UInt8 := (lay 0 (padded (stream seq body))).set 0 0xA1

theorem hd_len (seq n : Nat) : (hd seq n).length = 12 := by simp [hd, le_len]
theorem hdc_len (seq n : Nat) : (hdc seq n).length = 16 := by simp [hdc, hd_len, le_len]
theorem stream_len (seq : Nat) (body : List UInt8) : (stream seq body).length = 20 + body.length := by simp [stream, hdc_len, le_len]; omega
theorem padded_len (seq : Nat) (body : List UInt8) : (padded (stream seq body)).length = 31 * bl body.length := by
  rw [padded, List.length_append, List.length_replicate, stream_len, pads_bl]
theorem frameOf_len (seq : Nat) (body : List UInt8) : (frameOf seq body).length = 32 * bl body.length := by
  rw [frameOf, List.length_set, lay_len _ _ (padded_len seq body)]

/-! ### what stands in bytes -/
/-- The stream of so many blocks. -/
def pieces : Nat → List UInt8 → List UInt8
  | 0, _ => []
  | k + 1, X => (X.drop 1).take 31 ++ pieces k (X.drop 32)
/-- Has each of so many blocks the mark? -/
def marked : Nat → List UInt8 → Bool
  | 0, _ => true
  | k + 1, X => X[0]? == some 0xB2 && marked k (X.drop 32)

theorem pieces_lay : ∀ (j : Nat) (l r : List UInt8), l.length = 31 * j → pieces j (lay 0 l ++ r) = l
  | 0, l, r, h => by
    obtain rfl := List.eq_nil_of_length_eq_zero (by omega : l.length = 0)
    rfl
  | j + 1, l, r, h => by
    have h1 : (l.take 31).length = 31 := by rw [List.length_take]; omega
    have h2 : (l.drop 31).length = 31 * j := by rw [List.length_drop]; omega
    have e : lay 0 l = 0xB2 :: l.take 31 ++ lay 0 (l.drop 31) := by
      conv => lhs; rw [← List.take_append_drop 31 l]
      rw [lay_append, lay_block 0 _ rfl (by omega) (by omega), h1]
      congr 1
      exact lay_mod _ 31 0 rfl
    rw [e, pieces, List.append_assoc, List.cons_append, List.drop_succ_cons, List.drop_zero]
    have e2 : (0xB2 :: (l.take 31 ++ (lay 0 (l.drop 31) ++ r))).drop 32 = lay 0 (l.drop 31) ++ r := by
      rw [List.drop_succ_cons, List.drop_append_of_le_length (by omega)]
      rw [List.drop_eq_nil_of_le (by omega)]
      rfl
    rw [e2, pieces_lay j _ r h2, List.take_append_of_le_length (by omega), List.take_of_length_le (by omega), List.take_append_drop]

theorem marked_lay : ∀ (j : Nat) (l r : List UInt8), l.length = 31 * j → marked j (lay 0 l ++ r) = true
  | 0, _, _, _ => rfl
  | j + 1, l, r, h => by
    have h1 : (l.take 31).length = 31 := by rw [List.length_take]; omega
    have h2 : (l.drop 31).length = 31 * j := by rw [List.length_drop]; omega
    have e : lay 0 l = 0xB2 :: l.take 31 ++ lay 0 (l.drop 31) := by
      conv => lhs; rw [← List.take_append_drop 31 l]
      rw [lay_append, lay_block 0 _ rfl (by omega) (by omega), h1]
      congr 1
      exact lay_mod _ 31 0 rfl
    rw [e, List.append_assoc, List.cons_append, marked]
    have e2 : (0xB2 :: (l.take 31 ++ (lay 0 (l.drop 31) ++ r))).drop 32 = lay 0 (l.drop 31) ++ r := by
      rw [List.drop_succ_cons, List.drop_append_of_le_length (by omega)]
      rw [List.drop_eq_nil_of_le (by omega)]
      rfl
    rw [e2, marked_lay j _ r h2]
    rfl

theorem lay_pieces : ∀ (j : Nat) (X : List UInt8), 32 * j ≤ X.length → marked j X = true → lay 0 (pieces j X) = X.take (32 * j)
  | 0, _, _, _ => rfl
  | j + 1, X, hl, hm => by
    rcases X with _ | ⟨c, X⟩
    · simp at hl
    simp only [marked, Bool.and_eq_true] at hm
    obtain ⟨hc, hm⟩ := hm
    simp only [List.length_cons] at hl
    have hc' : c = 0xB2 := by simpa using hc
    subst hc'
    have h1 : (X.take 31).length = 31 := by rw [List.length_take]; omega
    rw [pieces, List.drop_succ_cons, List.drop_zero, lay_append, lay_block 0 _ rfl (by omega) (by omega), h1]
    rw [Nat.zero_add, lay_mod _ 31 0 rfl, lay_pieces j _ (by simp; omega) hm]
    have e : 32 * (j + 1) = 31 + 32 * j + 1 := by omega
    rw [e, List.take_succ_cons, List.cons_append, List.drop_succ_cons]
    congr 1
    rw [List.take_add]

theorem pieces_len : ∀ (j : Nat) (X : List UInt8), 32 * j ≤ X.length → (pieces j X).length = 31 * j
  | 0, _, _ => rfl
  | j + 1, X, h => by
    rw [pieces, List.length_append, pieces_len j _ (by simp; omega), List.length_take, List.length_drop]
    omega

/-- The first block's beginning. -/
theorem pieces_take (j : Nat) (X : List UInt8) (m : Nat) (hm : m ≤ 31) (h : 32 * (j + 1) ≤ X.length) : (pieces (j + 1) X).take m = (X.drop 1).take m := by
  rw [pieces, List.take_append_of_le_length (by rw [List.length_take, List.length_drop]; omega), List.take_take, Nat.min_eq_left hm]

/-! ### reading a frame -/
def hof (X : List UInt8) : List UInt8 := (X.drop 1).take 16
def nof (X : List UInt8) : Nat := unle (((hof X).take 12).drop 8)
def seqof (X : List UInt8) : Nat := unle ((hof X).take 8)
/-- Is the beginning of X the head of a frame that has room? -/
def headOk (X : List UInt8) : Prop := X[0]? = some 0xA1 ∧ unle (((hof X).take 16).drop 12) = (crc ((hof X).take 12)).toNat ∧ nof X ≤ 65536 ∧ bl (nof X) * 32 ≤ X.length
def sof (X : List UInt8) : List UInt8 := pieces (bl (nof X)) X
/-- Are the marks behind the first there, and are the sum and what is behind right? -/
def marksOk (X : List UInt8) : Prop := marked (bl (nof X) - 1) (X.drop 32) = true
def sumOk (X : List UInt8) : Prop := unle (((sof X).take (16 + nof X + 4)).drop (16 + nof X)) = (crc ((sof X).take (16 + nof X))).toNat
def restOk (X : List UInt8) : Prop := ∀ c ∈ (sof X).drop (16 + nof X + 4), c = 0
def bodyof (X : List UInt8) : List UInt8 := ((sof X).take (16 + nof X)).drop 16

/-- X begins with the frame of this. -/
def Fr (X : List UInt8) (seq : Nat) (body : List UInt8) : Prop := seq < 18446744073709551616 ∧ body.length ≤ 65536 ∧ frameOf seq body = X.take (32 * bl body.length) ∧ 32 * bl body.length ≤ X.length

theorem take_drop_split (s : List UInt8) (i j : Nat) (h : i ≤ j) : s.take i ++ ((s.take j).drop i) = s.take j := by
  have : s.take i = (s.take j).take i := by rw [List.take_take, Nat.min_eq_left h]
  rw [this, List.take_append_drop]

theorem fr_of (X : List UInt8) (h1 : headOk X) (h2 : marksOk X) (h3 : sumOk X) (h4 : restOk X) : Fr X (seqof X) (bodyof X) ∧ (bodyof X).length = nof X := by
  obtain ⟨ha, hc, hn, hroom⟩ := h1
  have hb1 := bl_pos (nof X)
  obtain ⟨j, hj⟩ : ∃ j, bl (nof X) = j + 1 := ⟨bl (nof X) - 1, by omega⟩
  have hX32 : 32 * (j + 1) ≤ X.length := by omega
  have hhl : (hof X).length = 16 := by unfold hof; rw [List.length_take, List.length_drop]; omega
  have hsl : (sof X).length = 31 * bl (nof X) := by unfold sof; exact pieces_len _ _ (by omega)
  have hpb := pads_bl (nof X)
  have hbl : (bodyof X).length = nof X := by
    unfold bodyof
    rw [List.length_drop, List.length_take]
    omega
  refine ⟨⟨?_, by omega, ?_, by rw [hbl]; omega⟩, hbl⟩
  · have := unle_lt ((hof X).take 8)
    have e : ((hof X).take 8).length = 8 := by rw [List.length_take]; omega
    rw [e] at this
    exact this
  · -- the head's twelve bytes
    have hseq : le (seqof X) 8 = (hof X).take 8 := by
      have := le_unle ((hof X).take 8)
      rwa [show ((hof X).take 8).length = 8 from by rw [List.length_take]; omega] at this
    have hnn : le (nof X) 4 = ((hof X).take 12).drop 8 := by
      have := le_unle (((hof X).take 12).drop 8)
      rwa [show (((hof X).take 12).drop 8).length = 4 from by rw [List.length_drop, List.length_take]; omega] at this
    have hhd : hd (seqof X) (nof X) = (hof X).take 12 := by
      unfold hd
      rw [hseq, hnn]
      exact take_drop_split _ 8 12 (by omega)
    have hcc : le (crc (hd (seqof X) (nof X))).toNat 4 = ((hof X).take 16).drop 12 := by
      rw [hhd, ← hc]
      have := le_unle (((hof X).take 16).drop 12)
      rwa [show (((hof X).take 16).drop 12).length = 4 from by rw [List.length_drop, List.length_take]; omega] at this
    have hhdc : hdc (seqof X) (nof X) = hof X := by
      unfold hdc
      rw [hcc, hhd, take_drop_split _ 12 16 (by omega), List.take_of_length_le (by omega)]
    have hs16 : (sof X).take 16 = hof X := by
      unfold sof hof
      rw [hj, pieces_take j X 16 (by omega) hX32]
    have hst : hdc (seqof X) (bodyof X).length ++ bodyof X = (sof X).take (16 + nof X) := by
      rw [hbl, hhdc, ← hs16]
      unfold bodyof
      exact take_drop_split _ 16 (16 + nof X) (by omega)
    have hsum : le (crc ((sof X).take (16 + nof X))).toNat 4 = ((sof X).take (16 + nof X + 4)).drop (16 + nof X) := by
      rw [← h3]
      have := le_unle (((sof X).take (16 + nof X + 4)).drop (16 + nof X))
      rwa [show (((sof X).take (16 + nof X + 4)).drop (16 + nof X)).length = 4 from by rw [List.length_drop, List.length_take]; omega] at this
    have hstr : stream (seqof X) (bodyof X) = (sof X).take (16 + nof X + 4) := by
      unfold stream
      rw [hst, hsum, take_drop_split _ _ _ (by omega)]
    have hpad : padded (stream (seqof X) (bodyof X)) = sof X := by
      unfold padded
      rw [stream_len, hbl, hstr]
      have e : List.replicate (pads (20 + nof X)) (0 : UInt8) = (sof X).drop (16 + nof X + 4) := by
        apply List.ext_getElem
        · rw [List.length_replicate, List.length_drop]; omega
        · intro i hi hi2
          rw [List.getElem_replicate]
          exact (h4 _ (List.getElem_mem hi2)).symm
      rw [e, List.take_append_drop]
    unfold frameOf
    rw [hpad, hbl]
    -- the marks
    have hX0 : X = 0xA1 :: X.drop 1 := by
      rcases X with _ | ⟨c, X⟩
      · simp at ha
      · simp at ha; subst ha; rfl
    have hX2 : pieces (bl (nof X)) X = pieces (bl (nof X)) (X.set 0 0xB2) := by
      rw [hj]
      conv => lhs; rw [hX0]
      conv => rhs; rw [hX0]
      rfl
    have hm : marked (bl (nof X)) (X.set 0 0xB2) = true := by
      rw [hj]
      unfold marksOk at h2
      rw [hj, Nat.add_sub_cancel] at h2
      conv => lhs; arg 2; rw [hX0]
      rw [List.set_cons_zero, marked]
      have e : (0xB2 :: X.drop 1).drop 32 = X.drop 32 := by rw [List.drop_succ_cons, List.drop_drop]
      rw [e, h2]
      rfl
    unfold sof
    rw [hX2, lay_pieces _ _ (by rw [List.length_set]; omega) hm]
    have hset : X.set 0 0xB2 = 0xB2 :: X.drop 1 := by conv => lhs; rw [hX0, List.set_cons_zero]
    rw [hset, hj, show 32 * (j + 1) = (32 * j + 31) + 1 from by omega, List.take_succ_cons, List.set_cons_zero]
    conv => rhs; rw [hX0, List.take_succ_cons]

theorem fr_back (X : List UInt8) (seq : Nat) (body : List UInt8) (h : Fr X seq body) : headOk X ∧ marksOk X ∧ sumOk X ∧ restOk X ∧ seqof X = seq ∧ bodyof X = body ∧ nof X = body.length := by
  obtain ⟨hs, hb, hf, hl⟩ := h
  have hb1 := bl_pos body.length
  obtain ⟨j, hj⟩ : ∃ j, bl body.length = j + 1 := ⟨bl body.length - 1, by omega⟩
  have hpb := pads_bl body.length
  have hP := padded_len seq body
  obtain ⟨P, hPd⟩ : ∃ P, P = padded (stream seq body) := ⟨_, rfl⟩
  rw [← hPd] at hP
  have hf' : frameOf seq body = (lay 0 P).set 0 0xA1 := by unfold frameOf; rw [hPd]
  -- X in parts
  have hXs : X = (lay 0 P).set 0 0xA1 ++ X.drop (32 * bl body.length) := by
    conv => lhs; rw [← List.take_append_drop (32 * bl body.length) X, ← hf, hf']
  have h31 : (P.take 31).length = 31 := by rw [List.length_take]; omega
  have hP2 : (P.drop 31).length = 31 * j := by rw [List.length_drop]; omega
  have hlay : lay 0 P = 0xB2 :: P.take 31 ++ lay 0 (P.drop 31) := by
    conv => lhs; rw [← List.take_append_drop 31 P]
    rw [lay_append, lay_block 0 _ rfl (by omega) (by omega), h31]
    congr 1
    exact lay_mod _ 31 0 rfl
  obtain ⟨R, hR⟩ : ∃ R, R = X.drop (32 * bl body.length) := ⟨_, rfl⟩
  have hX : X = 0xA1 :: (P.take 31 ++ (lay 0 (P.drop 31) ++ R)) := by
    rw [hXs, hlay, ← hR]
    simp
  have hd1 : X.drop 1 = P.take 31 ++ (lay 0 (P.drop 31) ++ R) := by rw [hX]; rfl
  have hd32 : X.drop 32 = lay 0 (P.drop 31) ++ R := by
    rw [hX, List.drop_succ_cons, List.drop_append_of_le_length (by omega), List.drop_eq_nil_of_le (by omega)]
    rfl
  have hof' : hof X = P.take 16 := by
    unfold hof
    rw [hd1, List.take_append_of_le_length (by omega), List.take_take]
    rfl
  have hst : P.take (20 + body.length) = stream seq body := by
    rw [hPd, padded, List.take_append_of_le_length (by rw [stream_len]; omega), List.take_of_length_le (by rw [stream_len]; omega)]
  have hst16 : P.take 16 = hdc seq body.length := by
    have : P.take 16 = (P.take (20 + body.length)).take 16 := by rw [List.take_take, Nat.min_eq_left (by omega)]
    rw [this, hst, stream, List.append_assoc, List.take_append_of_le_length (by rw [hdc_len]; omega), List.take_of_length_le (by rw [hdc_len]; omega)]
  have hh12 : (hof X).take 12 = hd seq body.length := by
    rw [hof', hst16, hdc, List.take_append_of_le_length (by rw [hd_len]; omega), List.take_of_length_le (by rw [hd_len]; omega)]
  have hn : nof X = body.length := by
    unfold nof
    rw [hh12, hd, List.drop_append_of_le_length (by rw [le_len]; omega), List.drop_eq_nil_of_le (by rw [le_len]; omega), List.nil_append, unle_le 4 _ (by omega)]
  have hsq : seqof X = seq := by
    unfold seqof
    have : (hof X).take 8 = ((hof X).take 12).take 8 := by rw [List.take_take]; rfl
    rw [this, hh12, hd, List.take_append_of_le_length (by rw [le_len]; omega), List.take_of_length_le (by rw [le_len]; omega), unle_le 8 _ (by omega)]
  have hsof : sof X = P := by
    unfold sof
    rw [hn, hj, pieces, hd1, hd32, pieces_lay j _ R hP2, List.take_append_of_le_length (by omega), List.take_take, Nat.min_self, List.take_append_drop]
  have hst2 : P.take (16 + body.length) = hdc seq body.length ++ body := by
    have : P.take (16 + body.length) = (P.take (20 + body.length)).take (16 + body.length) := by rw [List.take_take, Nat.min_eq_left (by omega)]
    rw [this, hst, stream, List.take_append_of_le_length (by rw [List.length_append, hdc_len]; omega), List.take_of_length_le (by rw [List.length_append, hdc_len]; omega)]
  refine ⟨⟨by rw [hX]; rfl, ?_, by omega, by rw [hn]; omega⟩, ?_, ?_, ?_, hsq, ?_, hn⟩
  · rw [hh12]
    rw [hof', hst16, List.take_of_length_le (by rw [hdc_len]; omega), hdc, List.drop_append_of_le_length (by rw [hd_len]; omega), List.drop_eq_nil_of_le (by rw [hd_len]; omega), List.nil_append, unle_le 4 _ (by have := (crc (hd seq body.length)).isLt; omega)]
  · unfold marksOk
    rw [hn, hj, Nat.add_sub_cancel, hd32]
    exact marked_lay j _ R hP2
  · unfold sumOk
    rw [hsof, hn, hst2]
    have e : 16 + body.length + 4 = 20 + body.length := by omega
    rw [e, hst, stream, List.drop_append_of_le_length (by rw [List.length_append, hdc_len]; omega), List.drop_eq_nil_of_le (by rw [List.length_append, hdc_len]; omega), List.nil_append, unle_le 4 _ (by have := (crc (hdc seq body.length ++ body)).isLt; omega)]
  · unfold restOk
    rw [hsof, hn]
    have e : 16 + body.length + 4 = (stream seq body).length := by rw [stream_len]; omega
    rw [e, hPd, padded, List.drop_left]
    intro c hc
    exact List.eq_of_mem_replicate hc
  · unfold bodyof
    rw [hsof, hn, hst2, List.drop_append_of_le_length (by rw [hdc_len]; omega), List.drop_eq_nil_of_le (by rw [hdc_len]; omega), List.nil_append]

/-! ### the frame at a place -/
open Classical in
/-- The number and the body of the frame that X begins with. -/
noncomputable def tkF (X : List UInt8) : Option (Nat × List UInt8) := if headOk X ∧ marksOk X ∧ sumOk X ∧ restOk X then some (seqof X, bodyof X) else none
theorem tkF_some {X : List UInt8} {p : Nat × List UInt8} : tkF X = some p ↔ Fr X p.1 p.2 := by
  unfold tkF
  constructor
  · intro h
    split at h
    · rename_i hc
      obtain ⟨h1, h2, h3, h4⟩ := hc
      cases h
      exact (fr_of X h1 h2 h3 h4).1
    · cases h
  · intro h
    obtain ⟨h1, h2, h3, h4, h5, h6, _⟩ := fr_back X p.1 p.2 h
    rw [if_pos ⟨h1, h2, h3, h4⟩, h5, h6]
theorem tkF_none {X : List UInt8} : tkF X = none ↔ ∀ seq body, ¬ Fr X seq body := by
  constructor
  · intro h seq body hf
    have := (tkF_some (X := X) (p := (seq, body))).2 hf
    rw [h] at this
    cases this
  · intro h
    cases e : tkF X with
    | none => rfl
    | some p => exact absurd (tkF_some.1 e) (h _ _)
/-- The frame at a place of bytes. -/
noncomputable def frAt (b : List UInt8) (at_ : Int) : Option (Nat × List UInt8) := if 0 ≤ at_ ∧ at_ % 32 = 0 ∧ at_ + 32 ≤ b.length then tkF (b.drop at_.toNat) else none
theorem frAt_some {b : List UInt8} {at_ : Int} {p : Nat × List UInt8} (h : frAt b at_ = some p) : 0 ≤ at_ ∧ at_ % 32 = 0 ∧ at_ + 32 * bl p.2.length ≤ b.length ∧ p.1 < 18446744073709551616 ∧ p.2.length ≤ 65536 ∧ Fr (b.drop at_.toNat) p.1 p.2 := by
  unfold frAt at h
  split at h
  · rename_i hc
    have hf := tkF_some.1 h
    have := hf.2.2.2
    rw [List.length_drop] at this
    exact ⟨hc.1, hc.2.1, by omega, hf.1, hf.2.1, hf⟩
  · cases h

end Go.Proofs.Ytggjipfdfpdecaa
/- The walks of the small functions of layer 4: numbers as bytes, the lowest first, and how many blocks a frame has. -/
namespace Go.Proofs.Ytggjipfdfpdecaa
open Go.RowKit

theorem u8_mod (m : Nat) : Value.int .u8 ((m : Int) % 256) = bv (UInt8.ofNat (m % 256)) := by
  have h : ((m : Int) % 256) = ((m % 256 : Nat) : Int) := by omega
  rw [h]
  exact bv_of _ (by omega)

set_option maxRecDepth 100000 in
set_option maxHeartbeats 400000 in
theorem fnumber_any (base : Nat) (v : Value) (l : List UInt8) (n size : Nat) (w : World) (hs : size ≤ 8) (hl : l.length + 8 ≤ 140737488355328) (hbase : base ≤ w.heap.size) (hown : Own w base v l) :
    Calls Try.prog 75 #[v, .int .u64 n, .int .i64 size] w fun e w' => ∃ v', e = .returned v' ∧ Own w' base v' (l ++ le n size) ∧ Below base w w' := by
  have HL := Lib.hid hl; clear hl
  go_enter Try.func75, Try.ntmps75
  go_wp2
  go_loopw [0, 1, 8] (fun v0 v1 v8 wr => ∃ (j m : Nat) (l1 : List UInt8), j ≤ size ∧ v8 = .int .i64 j ∧ v1 = .int .u64 m ∧ l1 ++ le m (size - j) = l ++ le n size ∧ Own wr base v0 l1 ∧ Below base w wr) (fun _ _ v8 _ => size - (intOf v8).toNat)
  case atStart => exact ⟨0, n, l, by omega, rfl, rfl, rfl, hown, Below.refl _ _⟩
  case round =>
    obtain ⟨j, m, l1, hj, rfl, rfl, heq, ho, hb⟩ := hrel
    have hlen : l1.length + 1 ≤ 140737488355328 ∨ ¬ j < size := by
      have h1 := congrArg List.length heq
      rw [List.length_append, List.length_append, le_len, le_len] at h1
      have := HL.out
      omega
    have HLen := Lib.hid hlen; clear hlen
    have HE := Lib.hid heq; clear heq
    have HO := Lib.hid ho; clear ho
    have HB := Lib.hid hb; clear hb
    by_cases h : j < size
    · go_wp2_with (at_builtin; refine own_append1 base rfl (.tmp 10) (.tmp 13) rfl _ l1 (UInt8.ofNat (m % 256)) _ ?hy rfl rfl HO.out ?hb ?hl ?_; (case hy => exact u8_mod m); (case hb => exact Nat.le_trans hbase HB.out.size); (case hl => have := HLen.out; omega); intro v1 w1 hown hb1 hg hat)
      have e := HE.out
      rw [show size - j = (size - (j + 1)) + 1 from by omega, le] at e
      go_roundw
      case rel => exact ⟨j + 1, m / 256, l1 ++ [UInt8.ofNat (m % 256)], by omega, by go_num, by simp, by rw [← e]; simp, hown, HB.out.trans hb1⟩
      case measure => simp [intOf]; omega
    · obtain rfl : j = size := by omega
      obtain ⟨A0, c0, rfl, _⟩ := HO.out.rd
      have e := HE.out
      rw [Nat.sub_self, le, List.append_nil] at e
      subst e
      go_wp2
      go_ret
      exact ⟨_, rfl, HO.out, HB.out⟩

theorem tl_or (k acc x : Nat) (hk : k ≤ 7) (hacc : acc < 256 ^ k) (hx : x < 256) :
    bits .or .u64 (acc : Int) (IntKind.u64.wrap ((x : Int) * 2 ^ (8 * k))) = ((acc + 256 ^ k * x : Nat) : Int) ∧ acc + 256 ^ k * x < 256 ^ (k + 1) := by
  have hp : 256 ^ k = 2 ^ (8 * k) := by rw [Nat.pow_mul]
  have h1 : acc + 256 ^ k * x < 256 ^ (k + 1) := by
    rw [Nat.pow_succ]
    have := Nat.mul_le_mul_left (256 ^ k) (show x ≤ 255 by omega)
    omega
  have h2 : 256 ^ (k + 1) ≤ 256 ^ 8 := Nat.pow_le_pow_right (by omega) (by omega)
  refine ⟨?_, h1⟩
  have h3 : (x : Int) * 2 ^ (8 * k) = ((256 ^ k * x : Nat) : Int) := by
    rw [hp]
    simp [Int.mul_comm]
  have h4 : IntKind.u64.wrap ((256 ^ k * x : Nat) : Int) = ((256 ^ k * x : Nat) : Int) := by
    generalize 256 ^ k * x = z at *
    rw [IntKind.wrap_u64, Int.emod_eq_of_lt (by omega) (by omega)]
  rw [h3, h4, u64_or_nat _ _ (by omega) (by omega)]
  congr 1
  rw [hp] at hacc ⊢
  rw [Nat.or_comm, ← Nat.two_pow_add_eq_or_of_lt hacc]
  omega

set_option maxRecDepth 100000 in
set_option maxHeartbeats 400000 in
theorem told_any (v : Value) (l : List UInt8) (w : World) (hr : RdB w v l) (hl : l.length ≤ 8) :
    Calls Try.prog 77 #[v] w fun e w' => e = .returned (.int .u64 (unle l : Nat)) ∧ w = w' := by
  obtain ⟨A, c, rfl, hc1, hc2, hcell⟩ := id hr
  have HC := Lib.hid hcell; clear hcell hr hc1 hc2
  go_enter Try.func77, Try.ntmps77
  go_wp2
  go_loop [3, 8] (fun n i => ∃ k acc : Nat, k ≤ l.length ∧ i = .int .i64 k ∧ n = .int .u64 acc ∧ acc = unle (l.take k)) (fun _ i => l.length - (intOf i).toNat)
  case atStart => exact ⟨0, 0, by omega, rfl, rfl, rfl⟩
  case round =>
    obtain ⟨k, acc, hk, rfl, rfl, hacc⟩ := hrel
    have HA := Lib.hid hacc; clear hacc
    by_cases hlt : k < l.length
    · obtain ⟨ad, rfl, hcells⟩ := HC.out (by omega)
      have hck := hcells k hlt
      rw [bv_nat] at hck
      clear hcells
      obtain ⟨x, hx⟩ : ∃ x, x = l[k].toNat := ⟨_, rfl⟩
      have hx256 : x < 256 := by rw [hx]; exact l[k].toNat_lt
      rw [← hx] at hck
      have hnext : unle (l.take (k + 1)) = unle (l.take k) + 256 ^ k * x := by
        rw [List.take_succ_eq_append_getElem hlt, unle_append, List.length_take, Nat.min_eq_left (by omega)]
        simp [unle, hx]
      have hb := unle_lt (l.take k)
      rw [List.length_take, Nat.min_eq_left (by omega), ← HA.out] at hb
      rw [← HA.out] at hnext
      obtain ⟨ho1, ho2⟩ := tl_or k acc x (by omega) hb hx256
      have HN := Lib.hid hnext; clear hnext hx hb ho2
      have HOR := Lib.hid ho1; clear ho1
      go_wp2
      go_round
      case rel => exact ⟨k + 1, acc + 256 ^ k * x, by omega, by go_num, by rw [HOR.out], HN.out.symm⟩
      case measure => simp [intOf]; omega
    · obtain rfl : k = l.length := by omega
      go_wp2
      go_ret
      have e := HA.out
      rw [List.take_length] at e
      subst e
      exact ⟨rfl, rfl⟩

set_option maxHeartbeats 400000 in
theorem blocks_any (n : Nat) (w : World) (hn : n ≤ 4294967296) :
    Calls Try.prog 78 #[.int .i64 n] w fun e w' => e = .returned (.int .i64 (bl n : Nat)) ∧ w = w' := by
  go_enter Try.func78, Try.ntmps78
  go_wp2
  go_ret
  refine ⟨?_, rfl⟩
  unfold bl
  simp
  omega

set_option maxRecDepth 100000 in
set_option maxHeartbeats 400000 in
theorem rnumber_any (n size : Nat) (w : World) (hs : size ≤ 8) (hn : n < 18446744073709551616) :
    Calls Try.prog 120 #[.int .u64 n, .int .i64 size] w fun e w' => ∃ v', e = .returned v' ∧ Own w' w.heap.size v' (le n size) ∧ Below w.heap.size w w' := by
  have HN := Lib.hid hn; clear hn
  go_enter Try.func120, Try.ntmps120
  go_wp2
  go_loopw [0, 5, 6] (fun v1 v0 v8 wr => ∃ (j m : Nat) (l1 : List UInt8), j ≤ size ∧ v8 = .int .i64 j ∧ v1 = .int .u64 m ∧ m ≤ n ∧ l1 ++ le m (size - j) = le n size ∧ Own wr w.heap.size v0 l1 ∧ Below w.heap.size w wr) (fun _ _ v8 _ => size - (intOf v8).toNat)
  case atStart => exact ⟨0, n, [], by omega, rfl, rfl, Nat.le_refl _, rfl, Own.nil _ _, Below.refl _ _⟩
  case round =>
    obtain ⟨j, m, l1, hj, rfl, rfl, hm, heq, ho, hb⟩ := hrel
    have hlen : l1.length + 1 ≤ 140737488355328 := by
      have h1 := congrArg List.length heq
      rw [List.length_append, le_len, le_len] at h1
      omega
    have HLen := Lib.hid hlen; clear hlen
    have HE := Lib.hid heq; clear heq
    have HO := Lib.hid ho; clear ho
    have HB := Lib.hid hb; clear hb
    by_cases h : j < size
    · have hwd : IntKind.u64.wrap ((m : Int) / 256) = (m : Int) / 256 := by have := HN.out; rw [IntKind.wrap_u64, Int.emod_eq_of_lt (by omega) (by omega)]
      go_wp2_with (at_builtin; refine own_append1 w.heap.size rfl (.tmp 12) (.tmp 16) rfl _ l1 (UInt8.ofNat (m % 256)) _ ?hy rfl rfl HO.out ?hb ?hl ?_; (case hy => exact u8_mod m); (case hb => exact HB.out.size); (case hl => exact HLen.out); intro v1 w1 hown hb1 hg hat)
      have e := HE.out
      rw [show size - j = (size - (j + 1)) + 1 from by omega, le] at e
      go_roundw
      case rel => exact ⟨j + 1, m / 256, l1 ++ [UInt8.ofNat (m % 256)], by omega, by go_num, by simp, by omega, by rw [← e]; simp, hown, HB.out.trans hb1⟩
      case measure => simp [intOf]; omega
    · obtain rfl : j = size := by omega
      obtain ⟨A0, c0, rfl, _⟩ := HO.out.rd
      have e := HE.out
      rw [Nat.sub_self, le, List.append_nil] at e
      subst e
      go_wp2
      go_ret
      exact ⟨_, rfl, HO.out, HB.out⟩

set_option maxRecDepth 100000 in
set_option maxHeartbeats 400000 in
theorem value_any (v : Value) (l : List UInt8) (w : World) (hr : RdB w v l) (hl : l.length ≤ 8) :
    Calls Try.prog 81 #[v] w fun e w' => e = .returned (.int .u64 (unle l : Nat)) ∧ w = w' := by
  obtain ⟨A, c, rfl, hc1, hc2, hcell⟩ := id hr
  have HC := Lib.hid hcell; clear hcell hr hc1 hc2
  go_enter Try.func81, Try.ntmps81
  go_wp2
  go_loop [3, 4] (fun n i => ∃ k acc : Nat, k ≤ l.length ∧ i = .int .i64 ((k : Int) - 1) ∧ n = .int .u64 acc ∧ acc = unle (l.drop k)) (fun _ i => (intOf i + 1).toNat)
  case atStart => exact ⟨l.length, 0, by omega, rfl, rfl, by rw [List.drop_length]; rfl⟩
  case round =>
    obtain ⟨k, acc, hk, rfl, rfl, hacc⟩ := hrel
    have HA := Lib.hid hacc; clear hacc
    rcases k with _ | k
    · go_wp2
      go_ret
      have e := HA.out
      rw [List.drop_zero] at e
      subst e
      exact ⟨rfl, rfl⟩
    · have hlt : k < l.length := by omega
      obtain ⟨ad, rfl, hcells⟩ := HC.out (by omega)
      have hck := hcells k hlt
      rw [bv_nat] at hck
      clear hcells
      obtain ⟨x, hx⟩ : ∃ x, x = l[k].toNat := ⟨_, rfl⟩
      have hx256 : x < 256 := by rw [hx]; exact l[k].toNat_lt
      rw [← hx] at hck
      have hnext : unle (l.drop k) = x + 256 * acc := by
        rw [List.drop_eq_getElem_cons hlt, unle, ← hx, HA.out]
      have hb := unle_lt (l.drop k)
      have hp : 256 ^ (l.drop k).length ≤ 256 ^ 8 := Nat.pow_le_pow_right (by omega) (by rw [List.length_drop]; omega)
      have hb8 : x + 256 * acc < 256 ^ 8 := by rw [← hnext]; omega
      have hw1 : IntKind.u64.wrap ((acc : Int) * 256) = (acc : Int) * 256 := by rw [IntKind.wrap_u64, Int.emod_eq_of_lt (by omega) (by omega)]
      have hw2 : IntKind.u64.wrap ((acc : Int) * 256 + (x : Int)) = (acc : Int) * 256 + (x : Int) := by rw [IntKind.wrap_u64, Int.emod_eq_of_lt (by omega) (by omega)]
      have HN := Lib.hid hnext; clear hnext hx hb hp
      have HB := Lib.hid hb8; clear hb8
      rw [show (((k + 1 : Nat) : Int) - 1) = (k : Int) from by omega]
      go_wp2
      go_round
      case rel => exact ⟨k, x + 256 * acc, by omega, by simp, by simp; omega, HN.out.symm⟩
      case measure => simp [intOf]
end Go.Proofs.Ytggjipfdfpdecaa
/- A block that is known whole: the bytes that a call has lent, with spare room behind them. -/
namespace Go.Proofs.Ytggjipfdfpdecaa
open Go.RowKit

def Whole (w : World) (g : Nat) (l : List UInt8) : Prop := w.heap[g]? = some (.cells (bvs l).toArray 5 (0, 0))

theorem Whole.lt {w : World} {g : Nat} {l : List UInt8} (h : Whole w g l) : g < w.heap.size := (Array.getElem?_eq_some_iff.1 h).1
theorem Whole.cell {w : World} {g : Nat} {l : List UInt8} (h : Whole w g l) (i : Nat) (hi : i < l.length) : w.cell? ⟨g, i, none⟩ = some (bv l[i]) := by
  rw [cell_of_row w g i _ 5 (0, 0) h]
  simpa using bvs_get l i hi
theorem Whole.frozen {w : World} {g : Nat} {l : List UInt8} (h : Whole w g l) (i : Nat) : w.frozen? ⟨g, i, none⟩ = false := by
  unfold Whole at h
  simp [World.frozen?, h]
theorem Whole.set_ {w : World} {g : Nat} {l : List UInt8} (h : Whole w g l) (i : Nat) (b : UInt8) : Whole (w.setCell ⟨g, i, none⟩ (bv b)) g (l.set i b) := by
  have hs := heap_setCell_same w g i (bvs l).toArray 5 (bv b) h
  unfold Whole
  rw [hs]
  simp [bvs, List.map_set]
theorem Whole.keep {w w' : World} {g : Nat} {l : List UInt8} (h : Whole w g l) (hb : Below w.heap.size w w') : Whole w' g l := (hb.block g h.lt).trans h
theorem Whole.drewN {w : World} {g : Nat} {l : List UInt8} (h : Whole w g l) (n : Nat) : Whole (w.drewN n) g l := h
theorem Whole.rd {w : World} {g n c : Nat} {l : List UInt8} (h : Whole w g l) (hn : n ≤ l.length) (hc : n ≤ c) (hm : c ≤ maxLen) : RdB w (.slice (some ⟨g, 0, none⟩) n c) (l.take n) := by
  have hl : (l.take n).length = n := by rw [List.length_take]; omega
  refine ⟨_, c, by rw [hl], by omega, hm, fun _ => ⟨_, rfl, fun j hj => ?_⟩⟩
  rw [addp, h.cell j (by omega)]
  simp
theorem Whole.made (w : World) (n : Nat) : Whole (w.alloc (.cells (madeCells #[.int .u8 0] n) 5)) w.heap.size (List.replicate n 0) := by
  unfold Whole
  rw [heap_alloc_new w _]
  congr 2
  apply Array.ext'
  apply List.ext_getElem
  · simp [madeCells, bvs]
  · intro i h1 h2
    simp [madeCells, bvs, Nat.mod_one, bv]

theorem splice_bvs (cur cs : List UInt8) (off : Nat) : splice (bvs cur) off (bvs cs) = bvs (cur.take off ++ cs ++ cur.drop (off + cs.length)) := by
  simp [splice, bvs, List.map_take, List.map_drop]

section
variable {ops : Array Oper} {rest : List Oper} {o : Oper} {a : Act} {Q : Exit → Act → World → Prop}
/-- copy(d, s): d a cut of a block that is known whole, s a slice that reads. -/
theorem copy_whole {W : World} (B : Nat) (w0 : World) (hgd : o.guard = none) (d s : Operand)
    (ho : o.op = .call { callee := .builtin .copy, args := #[d, s], argTypes := #[25, 25] })
    (g off dLen dCap : Nat) (L l : List UInt8) (u : Value) (hd : a.eval d = .slice (some ⟨g, off, none⟩) dLen dCap) (hs : a.eval s = u)
    (hw : Whole W g L) (hr : RdB W u l) (hle : l.length ≤ dLen) (hfit : off + l.length ≤ L.length) (hb : Below B w0 W) (hBg : B ≤ g)
    (h : ∀ w', Whole w' g (L.take off ++ l ++ L.drop (off + l.length)) → Below B w0 w' → wpList Try.prog ops Q rest (a.put o.dst (goInt l.length)) w') :
    wpList Try.prog ops Q (o :: rest) a W := by
  obtain ⟨A, c, rfl, h1, h2, h3⟩ := hr
  obtain ⟨i0, hi, hz0, hz1, hz2⟩ := info_parts info5
  have hlen : (bvs l).length = l.length := bvs_length l
  refine wpList_copy_splice hgd d s 25 25 ho 5 Try.underlying25 (by rw [hi]; simp [hz1]) (some ⟨g, off, none⟩) A dLen dCap l.length c hd hs g off (bvs L) 5 hw (bvs l) (by rw [hlen]; exact (Nat.min_eq_left hle).symm) ?_ (by rw [hlen, bvs_length]; exact hfit) (bvs_one l) B w0 hb hBg ?_
  · intro hp
    rw [hlen] at hp
    obtain ⟨ad, hA, hc⟩ := h3 hp
    refine ⟨rfl, ad, hA, fun j v hj => ?_⟩
    have hjl : j < l.length := by
      rcases Nat.lt_or_ge j l.length with h | h
      · exact h
      · simp [bvs, List.getElem?_eq_none h] at hj
    rw [bvs_get l j hjl] at hj
    rw [hc j hjl, hj]
  · intro w' hw' hb'
    have := hw'.out
    rw [splice_bvs] at this
    rw [hlen]
    exact h w' this hb'
end
end Go.Proofs.Ytggjipfdfpdecaa

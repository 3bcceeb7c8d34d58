/- Plain: how a reader goes through bytes; how commits, rows, manifests are read and written; no program in sight. -/
import Derived.Test.YtggjipfdfpdecaaRcP
import GoSem.Op.String
namespace Go.Proofs.Ytggjipfdfpdecaa

/-- The text at a place, and the place behind it. -/
def txAt (l : List UInt8) (at_ : Int) (most : Int) : Option (List UInt8 × Nat) :=
  match tkAt l at_ with
  | some (n, nx) => if 0 ≤ most ∧ n ≤ most.toNat ∧ n ≤ l.length - nx then some ((l.drop nx).take n, nx + n) else none
  | none => none

/-- A reader: where it stands; has it met a fault? -/
structure RS where
  at_ : Nat
  bad : Bool

def rNum (b : List UInt8) (most : Nat) (s : RS) : Nat × RS :=
  match tkAt b s.at_ with
  | some (n, nx) => if s.bad = true ∨ most < n then (0, ⟨s.at_, true⟩) else (n, ⟨nx, false⟩)
  | none => (0, ⟨s.at_, true⟩)
def rTxt (b : List UInt8) (most : Nat) (s : RS) : List UInt8 × RS :=
  match txAt b s.at_ most with
  | some (t, nx) => if s.bad = true then ([], ⟨s.at_, true⟩) else (t, ⟨nx, false⟩)
  | none => ([], ⟨s.at_, true⟩)
def rFlag (b : List UInt8) (s : RS) : Bool × RS :=
  match b[s.at_]? with
  | some x => if s.bad = true ∨ 1 < x.toNat then (false, ⟨s.at_, true⟩) else (x == 1, ⟨s.at_ + 1, false⟩)
  | none => (false, ⟨s.at_, true⟩)

theorem rNum_at (b : List UInt8) (m : Nat) (s : RS) : (rNum b m s).2.at_ ≤ max s.at_ b.length := by
  unfold rNum
  cases h : tkAt b s.at_ with
  | none => simp only; omega
  | some p =>
    obtain ⟨n, nx⟩ := p
    have := (tkAt_one b s.at_ n nx h).2.2.2.1
    simp only
    split <;> simp only <;> omega
theorem txAt_le {b : List UInt8} {a m : Int} {t : List UInt8} {nx : Nat} (h : txAt b a m = some (t, nx)) : nx ≤ b.length := by
  unfold txAt at h
  cases hk : tkAt b a with
  | none => rw [hk] at h; cases h
  | some p =>
    obtain ⟨n, k⟩ := p
    have := (tkAt_one b a n k hk).2.2.2.1
    rw [hk] at h
    simp only at h
    split at h
    · simp only [Option.some.injEq, Prod.mk.injEq] at h
      omega
    · cases h
theorem rTxt_at (b : List UInt8) (m : Nat) (s : RS) : (rTxt b m s).2.at_ ≤ max s.at_ b.length := by
  unfold rTxt
  cases h : txAt b s.at_ m with
  | none => simp only; omega
  | some p =>
    obtain ⟨t, nx⟩ := p
    have := txAt_le h
    simp only
    split <;> simp only <;> omega
theorem rFlag_at (b : List UInt8) (s : RS) : (rFlag b s).2.at_ ≤ max s.at_ b.length := by
  unfold rFlag
  cases h : b[s.at_]? with
  | none => simp only; omega
  | some x =>
    have := (List.getElem?_eq_some_iff.1 h).1
    simp only
    split <;> simp only <;> omega

/-- Where a reading ends: the place of the fault, the code. -/
def endC (b : List UInt8) (s : RS) (right : Bool) : Nat × Nat := if s.bad = true ∨ s.at_ < b.length then (s.at_, 61) else if right = false then (0, 60) else (0, 0)
/-- Where a reading begins. -/
def startC (b : List UInt8) (k : UInt8) : RS := if b[0]? = some k then ⟨1, false⟩ else ⟨0, true⟩

/-- A row; what is gone. -/
structure RowP where
  key : List UInt8
  val : List UInt8
  time : Nat
structure GoneP where
  key : List UInt8
  time : Nat
def rRow (b : List UInt8) (s : RS) : RowP × RS :=
  let k := rTxt b 16 s
  let v := rTxt b 64 k.2
  let t := rNum b 1099511627775 v.2
  (⟨k.1, v.1, t.1⟩, t.2)
def rGone (b : List UInt8) (s : RS) : GoneP × RS :=
  let k := rTxt b 16 s
  let t := rNum b 1099511627775 k.2
  (⟨k.1, t.1⟩, t.2)
/-- What a reading answers: what was read, or nothing; the place of the fault, the code. -/
def ansC {α : Type} (zero x : α) (e : Nat × Nat) : α × Nat × Nat := (if e.2 = 0 then x else zero, e)
def decRow (b : List UInt8) : RowP × Nat × Nat :=
  let q := rRow b (startC b 82)
  ansC ⟨[], [], 0⟩ q.1 (endC b q.2 (isKey q.1.key))
def decGone (b : List UInt8) : GoneP × Nat × Nat :=
  let q := rGone b (startC b 71)
  ansC ⟨[], 0⟩ q.1 (endC b q.2 (isKey q.1.key))

theorem rNum_le (b : List UInt8) (m : Nat) (s : RS) : (rNum b m s).1 ≤ m := by
  unfold rNum
  cases tkAt b s.at_ with
  | none => simp
  | some p =>
    simp only
    split
    · simp
    · rename_i h
      simp only
      omega
theorem rTxt_le (b : List UInt8) (m : Nat) (s : RS) : (rTxt b m s).1.length ≤ m := by
  unfold rTxt
  cases h : txAt b s.at_ m with
  | none => simp
  | some p =>
    obtain ⟨t, nx⟩ := p
    simp only
    split
    · simp
    · simp only
      unfold txAt at h
      cases hk : tkAt b s.at_ with
      | none => rw [hk] at h; cases h
      | some q =>
        obtain ⟨n, k⟩ := q
        rw [hk] at h
        simp only at h
        split at h
        · simp only [Option.some.injEq, Prod.mk.injEq] at h
          rw [← h.1, List.length_take]
          omega
        · cases h
/-- Once a fault is met, nothing is read any more. -/
theorem rNum_bad (b : List UInt8) (m : Nat) (a : Nat) : rNum b m ⟨a, true⟩ = (0, ⟨a, true⟩) := by unfold rNum; cases tkAt b (a : Int) <;> simp
theorem rTxt_bad (b : List UInt8) (m : Nat) (a : Nat) : rTxt b m ⟨a, true⟩ = ([], ⟨a, true⟩) := by unfold rTxt; cases txAt b (a : Int) m <;> simp
theorem rFlag_bad (b : List UInt8) (a : Nat) : rFlag b ⟨a, true⟩ = (false, ⟨a, true⟩) := by unfold rFlag; cases b[a]? <;> simp
theorem rRow_bad (b : List UInt8) (a : Nat) : rRow b ⟨a, true⟩ = (⟨[], [], 0⟩, ⟨a, true⟩) := by unfold rRow; simp only [rTxt_bad, rNum_bad]
theorem rGone_bad (b : List UInt8) (a : Nat) : rGone b ⟨a, true⟩ = (⟨[], 0⟩, ⟨a, true⟩) := by unfold rGone; simp only [rTxt_bad, rNum_bad]
theorem startC_yes {b : List UInt8} {k : UInt8} (h : b[0]? = some k) : startC b k = ⟨1, false⟩ := by unfold startC; rw [if_pos h]
theorem startC_no {b : List UInt8} {k : UInt8} (h : b[0]? ≠ some k) : startC b k = ⟨0, true⟩ := by unfold startC; rw [if_neg h]
theorem endC_bad (b : List UInt8) (a : Nat) (r : Bool) : endC b ⟨a, true⟩ r = (a, 61) := by unfold endC; rw [if_pos (.inl rfl)]
theorem endC_less {b : List UInt8} {s : RS} (h : s.at_ < b.length) (r : Bool) : endC b s r = (s.at_, 61) := by unfold endC; rw [if_pos (.inr h)]
theorem endC_done {b : List UInt8} {a : Nat} (h : ¬ a < b.length) (r : Bool) : endC b ⟨a, false⟩ r = if r = false then (0, 60) else (0, 0) := by unfold endC; rw [if_neg (by simp; omega)]
end Go.Proofs.Ytggjipfdfpdecaa

/- Texts merged: Plain, RcP, RcD, RcE, RcMa, RcN, Base, NumA. Each says below what it proves. -/
import GoSem.Op.String
import Derived.WalkKit
import Derived.Test.YtggjipfdfpdecaaRows
import Derived.WalkSpells
import Derived.WalkLawsBesides
import Derived.Lib.Hide
import Derived.Maps.AppendAt
import Derived.Deep.AppendLies
import Derived.Lib.AppendStr
import Derived.Lib.SlBytesConst
import Derived.Laws.IdiomStrings
import Derived.Laws.BitsAllLaws
import Derived.Laws.BitsLemmas
import Derived.Laws.Bits128
/- Plain mathematics of numbers as bytes; no program in sight. -/
namespace Go.Proofs.Ytggjipfdfpdecaa

/-- A number's bytes. -/
def uvar (n : Nat) : List UInt8 := if n < 128 then [UInt8.ofNat n] else UInt8.ofNat (n % 128 + 128) :: uvar (n / 128)
termination_by n
decreasing_by omega

theorem uvar_lt {n : Nat} (h : n < 128) : uvar n = [UInt8.ofNat n] := by rw [uvar, if_pos h]
theorem uvar_ge {n : Nat} (h : ¬ n < 128) : uvar n = UInt8.ofNat (n % 128 + 128) :: uvar (n / 128) := by rw [uvar, if_neg h]

theorem uvar_len : ∀ (k n : Nat), n < 128 ^ k → 1 ≤ k → (uvar n).length ≤ k
  | 0, _, _, h => by omega
  | k + 1, n, h, _ => by
    by_cases hn : n < 128
    · rw [uvar_lt hn]; simp
    · rw [uvar_ge hn]
      have hk : 1 ≤ k := by
        rcases Nat.eq_zero_or_pos k with h0 | h0
        · subst h0; simp at h; omega
        · exact h0
      have := uvar_len k (n / 128) (by rw [Nat.pow_succ] at h; omega) hk
      simp; omega

theorem uvar_len10 {n : Nat} (h : n < 18446744073709551616) : (uvar n).length ≤ 10 := uvar_len 10 n (by omega) (by omega)
theorem uvar_pos (n : Nat) : 1 ≤ (uvar n).length := by
  rw [uvar]; split <;> simp


/-- No number's bytes are the beginning of another one's. -/
theorem uvar_prefix : ∀ (n m : Nat) (r r' : List UInt8), uvar n ++ r = uvar m ++ r' → n = m ∧ r = r' := by
  intro n
  induction n using uvar.induct with
  | case1 n hn =>
    intro m r r' h
    rw [uvar_lt hn] at h
    by_cases hm : m < 128
    · rw [uvar_lt hm] at h
      simp only [List.cons_append, List.nil_append, List.cons.injEq] at h
      have := congrArg UInt8.toNat h.1
      simp only [UInt8.toNat_ofNat'] at this
      exact ⟨by omega, h.2⟩
    · rw [uvar_ge hm] at h
      simp only [List.cons_append, List.nil_append, List.cons.injEq] at h
      have := congrArg UInt8.toNat h.1
      simp only [UInt8.toNat_ofNat'] at this
      omega
  | case2 n hn ih =>
    intro m r r' h
    rw [uvar_ge hn] at h
    by_cases hm : m < 128
    · rw [uvar_lt hm] at h
      simp only [List.cons_append, List.nil_append, List.cons.injEq] at h
      have := congrArg UInt8.toNat h.1
      simp only [UInt8.toNat_ofNat'] at this
      omega
    · rw [uvar_ge hm] at h
      simp only [List.cons_append, List.cons.injEq] at h
      have := congrArg UInt8.toNat h.1
      simp only [UInt8.toNat_ofNat'] at this
      obtain ⟨h1, h2⟩ := ih _ _ _ h.2
      exact ⟨by omega, h2⟩

theorem uvar_take {n m : Nat} (h : (uvar m).take (uvar n).length = uvar n) : n = m := by
  have h1 : uvar n ++ (uvar m).drop (uvar n).length = uvar m ++ [] := by
    conv => lhs; lhs; rw [← h]
    rw [List.take_append_drop, List.append_nil]
  exact (uvar_prefix _ _ _ _ h1).1

/-- A number is read: from its i-th byte on, what was read so far being acc. -/
def tkGo (i acc : Nat) : List UInt8 → Option (Nat × Nat)
  | [] => none
  | c :: r => if i ≥ 10 then none else if i = 9 ∧ 1 < c.toNat then none else if 128 ≤ c.toNat then tkGo (i + 1) (acc + c.toNat % 128 * 128 ^ i) r else if 0 < i ∧ c.toNat = 0 then none else some (acc + c.toNat % 128 * 128 ^ i, i + 1)

/-- The number at a place, and the place behind it. -/
def tkAt (l : List UInt8) (at_ : Int) : Option (Nat × Nat) := if 0 ≤ at_ ∧ at_ < l.length then (tkGo 0 0 (l.drop at_.toNat)).map fun p => (p.1, at_.toNat + p.2) else none

theorem tkGo_ten (acc : Nat) (l : List UInt8) : tkGo 10 acc l = none := by cases l <;> simp [tkGo]

/-- What is put is read. -/
theorem tkGo_uvar : ∀ (n i acc : Nat) (r : List UInt8), i ≤ 9 → n * 128 ^ i < 18446744073709551616 → (0 < i → 0 < n) → tkGo i acc (uvar n ++ r) = some (acc + n * 128 ^ i, i + (uvar n).length) := by
  intro n
  induction n using uvar.induct with
  | case1 n hn =>
    intro i acc r hi hb hz
    rw [uvar_lt hn]
    have e : (UInt8.ofNat n).toNat = n := by rw [UInt8.toNat_ofNat']; omega
    simp only [List.cons_append, List.nil_append, tkGo, e, List.length_cons, List.length_nil]
    rw [if_neg (by omega), if_neg, if_neg (by omega), if_neg (by omega)]
    · rw [Nat.mod_eq_of_lt hn]
    · rintro ⟨rfl, h1⟩
      have : 2 * 128 ^ 9 ≤ n * 128 ^ 9 := Nat.mul_le_mul_right _ h1
      omega
  | case2 n hn ih =>
    intro i acc r hi hb hz
    rw [uvar_ge hn]
    have e : (UInt8.ofNat (n % 128 + 128)).toNat = n % 128 + 128 := by rw [UInt8.toNat_ofNat']; omega
    have h9 : i ≠ 9 := by
      rintro rfl
      have : 128 * 128 ^ 9 ≤ n * 128 ^ 9 := Nat.mul_le_mul_right _ (by omega)
      omega
    have h1 : n * 128 ^ i = (n / 128) * 128 ^ (i + 1) + n % 128 * 128 ^ i := by
      conv => lhs; rw [← Nat.div_add_mod n 128]
      rw [Nat.add_mul, Nat.pow_succ, Nat.mul_comm 128 (n / 128), Nat.mul_assoc, Nat.mul_comm 128 (128 ^ i)]
    simp only [List.cons_append, tkGo, e, List.length_cons]
    rw [if_neg (by omega), if_neg (by omega), if_pos (by omega), ih (i + 1) _ r (by omega) (by omega) (by omega), h1]
    have h2 : (n % 128 + 128) % 128 = n % 128 := by omega
    rw [h2]
    congr 2
    · omega
    · omega

theorem tkAt_uvar (b r : List UInt8) (n : Nat) (h : n < 18446744073709551616) : tkAt (b ++ (uvar n ++ r)) b.length = some (n, b.length + (uvar n).length) := by
  have hp : 0 < (uvar n).length := by rw [uvar]; split <;> simp
  unfold tkAt
  rw [if_pos (by simp; omega), Int.toNat_natCast, List.drop_left, tkGo_uvar n 0 0 r (by omega) (by omega) (by omega)]
  simp

/-- What is read was put. -/
theorem tkGo_one : ∀ (l : List UInt8) (i acc n k : Nat), tkGo i acc l = some (n, k) → i ≤ 9 ∧ ∃ m, n = acc + m * 128 ^ i ∧ m * 128 ^ i < 18446744073709551616 ∧ k = i + (uvar m).length ∧ l.take (uvar m).length = uvar m ∧ (uvar m).length ≤ l.length ∧ (0 < i → 0 < m)
  | [], i, acc, n, k, h => by simp [tkGo] at h
  | c :: r, i, acc, n, k, h => by
    simp only [tkGo] at h
    have hc := c.toNat_lt
    by_cases h1 : i ≥ 10
    · rw [if_pos h1] at h; cases h
    rw [if_neg h1] at h
    by_cases h2 : i = 9 ∧ 1 < c.toNat
    · rw [if_pos h2] at h; cases h
    rw [if_neg h2] at h
    by_cases h3 : 128 ≤ c.toNat
    · rw [if_pos h3] at h
      obtain ⟨hi, m, hn, hb, hk, ht, hle, hz⟩ := tkGo_one r (i + 1) _ n k h
      refine ⟨by omega, c.toNat % 128 + 128 * m, ?_, ?_, ?_⟩
      · rw [hn, Nat.add_mul, Nat.pow_succ, Nat.mul_comm 128 m, Nat.mul_assoc, Nat.mul_comm 128 (128 ^ i)]
        omega
      · have hm : m * 128 ^ (i + 1) < 18446744073709551616 := hb
        have e1 : (c.toNat % 128 + 128 * m) * 128 ^ i = m * 128 ^ (i + 1) + c.toNat % 128 * 128 ^ i := by
          rw [Nat.add_mul, Nat.pow_succ, Nat.mul_comm 128 m, Nat.mul_assoc, Nat.mul_comm 128 (128 ^ i)]
          omega
        rw [e1]
        -- m * 128^(i+1) is a multiple of 128^(i+1), below 2^64
        have h8 : i ≤ 8 := by omega
        have hlt : c.toNat % 128 * 128 ^ i < 128 ^ (i + 1) := by
          rw [Nat.pow_succ, Nat.mul_comm (128 ^ i)]
          exact Nat.mul_lt_mul_of_pos_right (by omega) (Nat.pow_pos (by omega))
        have hd : 18446744073709551616 = 2 * 128 ^ (8 - i) * 128 ^ (i + 1) := by
          rw [Nat.mul_assoc, ← Nat.pow_add, show 8 - i + (i + 1) = 9 from by omega]
        have hm2 : m + 1 ≤ 2 * 128 ^ (8 - i) := by
          rw [hd] at hm
          exact Nat.lt_of_mul_lt_mul_right hm
        have := Nat.mul_le_mul_right (128 ^ (i + 1)) hm2
        rw [Nat.add_mul, ← hd] at this
        omega
      · have hm0 : 0 < m := hz (by omega)
        have hu : uvar (c.toNat % 128 + 128 * m) = c :: uvar m := by
          rw [uvar_ge (by omega)]
          have e1 : (c.toNat % 128 + 128 * m) % 128 + 128 = c.toNat := by omega
          have e2 : (c.toNat % 128 + 128 * m) / 128 = m := by omega
          rw [e1, e2, UInt8.ofNat_toNat]
        rw [hu]
        refine ⟨by simp; omega, by simp [ht], by simpa using hle, by omega⟩
    · rw [if_neg h3] at h
      by_cases h4 : 0 < i ∧ c.toNat = 0
      · rw [if_pos h4] at h; cases h
      rw [if_neg h4] at h
      simp only [Option.some.injEq, Prod.mk.injEq] at h
      obtain ⟨rfl, rfl⟩ := h
      have hu : uvar c.toNat = [c] := by rw [uvar_lt (by omega), UInt8.ofNat_toNat]
      refine ⟨by omega, c.toNat, by rw [Nat.mod_eq_of_lt (by omega)], ?_, by rw [hu]; rfl, by rw [hu]; rfl, by rw [hu]; simp, by omega⟩
      have hp : 128 ^ i ≤ 128 ^ 9 := Nat.pow_le_pow_right (by omega) (by omega)
      by_cases h9 : i = 9
      · subst h9
        have : c.toNat * 128 ^ 9 ≤ 1 * 128 ^ 9 := Nat.mul_le_mul_right _ (by omega)
        omega
      · have hp8 : 128 ^ i ≤ 128 ^ 8 := Nat.pow_le_pow_right (by omega) (by omega)
        have : c.toNat * 128 ^ i ≤ 127 * 128 ^ 8 := Nat.mul_le_mul (by omega) hp8
        omega

theorem tkAt_one (l : List UInt8) (at_ : Int) (n nx : Nat) (h : tkAt l at_ = some (n, nx)) :
    n < 18446744073709551616 ∧ 0 ≤ at_ ∧ at_ < nx ∧ nx ≤ l.length ∧ nx = at_.toNat + (uvar n).length ∧ (l.take nx).drop at_.toNat = uvar n := by
  unfold tkAt at h
  by_cases hc : 0 ≤ at_ ∧ at_ < l.length
  · rw [if_pos hc] at h
    obtain ⟨⟨n', k⟩, hg, he⟩ := Option.map_eq_some_iff.1 h
    simp only [Prod.mk.injEq] at he
    obtain ⟨rfl, rfl⟩ := he
    obtain ⟨_, m, hn, hb, hk, ht, hle, _⟩ := tkGo_one _ _ _ _ _ hg
    simp only [Nat.pow_zero, Nat.mul_one, Nat.zero_add] at hn hb hk
    subst hn hk
    have hp : 0 < (uvar n').length := by rw [uvar]; split <;> simp
    rw [List.length_drop] at hle
    refine ⟨hb, hc.1, by omega, by omega, rfl, ?_⟩
    rw [← ht, List.drop_take]
    congr 1
    rw [ht]
    omega
  · rw [if_neg hc] at h; cases h

theorem tkGo_take (L : List UInt8) : ∀ (k i acc : Nat), i + k = 10 → tkGo i acc (L.take k) = tkGo i acc L := by
  induction L with
  | nil => intro k i acc _; simp
  | cons c r ih =>
    intro k i acc hk
    rcases k with _ | k
    · obtain rfl : i = 10 := by omega
      rw [tkGo_ten, tkGo_ten]
    · simp only [List.take_succ_cons, tkGo]
      rw [ih k (i + 1) _ (by omega)]

end Go.Proofs.Ytggjipfdfpdecaa
/- Plain: what may be a key, a value, a time, a number; commits, rows, manifests as data; no program in sight. -/
namespace Go.Proofs.Ytggjipfdfpdecaa

def isKey (l : List UInt8) : Bool := decide (1 ≤ l.length ∧ l.length ≤ 16)
def isVal (l : List UInt8) : Bool := decide (l.length ≤ 64)
def isTm (t : Int) : Bool := decide (0 ≤ t ∧ t < 1099511627776)
def isNo (n : Int) : Bool := decide (1 ≤ n ∧ n ≤ 2147483647)
theorem isKey_iff (l : List UInt8) : isKey l = true ↔ 1 ≤ l.length ∧ l.length ≤ 16 := by unfold isKey; exact decide_eq_true_iff
theorem isVal_iff (l : List UInt8) : isVal l = true ↔ l.length ≤ 64 := by unfold isVal; exact decide_eq_true_iff
theorem isTm_iff (t : Int) : isTm t = true ↔ 0 ≤ t ∧ t < 1099511627776 := by unfold isTm; exact decide_eq_true_iff
theorem isNo_iff (t : Int) : isNo t = true ↔ 1 ≤ t ∧ t ≤ 2147483647 := by unfold isNo; exact decide_eq_true_iff
theorem bool_no {b : Bool} (h : ¬ b = true) : b = false := by cases b <;> simp_all
end Go.Proofs.Ytggjipfdfpdecaa
/- Plain: how a reader goes through bytes; how commits, rows, manifests are read and written; no program in sight. -/
namespace Go.Proofs.Ytggjipfdfpdecaa

/-- The text at a place, and the place behind it. -/
def txAt (l : List UInt8) (at_ : Int) (most : Int) : Option (List UInt8 × Nat) :=
  match tkAt l at_ with
  | some (n, nx) => if 0 ≤ most ∧ n ≤ most.toNat ∧ n ≤ l.length - nx then some ((l.drop nx).take n, nx + n) else none
  | none => none

/-- A reader: where it stands; has it met a fault? -/
structure RS where
  at_ : Nat
  bad : Bool

def rNum (b : List UInt8) (most : Nat) (s : RS) : Nat × RS :=
  match tkAt b s.at_ with
  | some (n, nx) => if s.bad = true ∨ most < n then (0, ⟨s.at_, true⟩) else (n, ⟨nx, false⟩)
  | none => (0, ⟨s.at_, true⟩)
def rTxt (b : List UInt8) (most : Nat) (s : RS) : List UInt8 × RS :=
  match txAt b s.at_ most with
  | some (t, nx) => if s.bad = true then ([], ⟨s.at_, true⟩) else (t, ⟨nx, false⟩)
  | none => ([], ⟨s.at_, true⟩)
def rFlag (b : List UInt8) (s : RS) : Bool × RS :=
  match b[s.at_]? with
  | some x => if s.bad = true ∨ 1 < x.toNat then (false, ⟨s.at_, true⟩) else (x == 1, ⟨s.at_ + 1, false⟩)
  | none => (false, ⟨s.at_, true⟩)

theorem rNum_at (b : List UInt8) (m : Nat) (s : RS) : (rNum b m s).2.at_ ≤ max s.at_ b.length := by
  unfold rNum
  cases h : tkAt b s.at_ with
  | none => simp only; omega
  | some p =>
    obtain ⟨n, nx⟩ := p
    have := (tkAt_one b s.at_ n nx h).2.2.2.1
    simp only
    split <;> simp only <;> omega
theorem txAt_le {b : List UInt8} {a m : Int} {t : List UInt8} {nx : Nat} (h : txAt b a m = some (t, nx)) : nx ≤ b.length := by
  unfold txAt at h
  cases hk : tkAt b a with
  | none => rw [hk] at h; cases h
  | some p =>
    obtain ⟨n, k⟩ := p
    have := (tkAt_one b a n k hk).2.2.2.1
    rw [hk] at h
    simp only at h
    split at h
    · simp only [Option.some.injEq, Prod.mk.injEq] at h
      omega
    · cases h
theorem rTxt_at (b : List UInt8) (m : Nat) (s : RS) : (rTxt b m s).2.at_ ≤ max s.at_ b.length := by
  unfold rTxt
  cases h : txAt b s.at_ m with
  | none => simp only; omega
  | some p =>
    obtain ⟨t, nx⟩ := p
    have := txAt_le h
    simp only
    split <;> simp only <;> omega
theorem rFlag_at (b : List UInt8) (s : RS) : (rFlag b s).2.at_ ≤ max s.at_ b.length := by
  unfold rFlag
  cases h : b[s.at_]? with
  | none => simp only; omega
  | some x =>
    have := (List.getElem?_eq_some_iff.1 h).1
    simp only
    split <;> simp only <;> omega

/-- Where a reading ends: the place of the fault, the code. -/
def endC (b : List UInt8) (s : RS) (right : Bool) : Nat × Nat := if s.bad = true ∨ s.at_ < b.length then (s.at_, 61) else if right = false then (0, 60) else (0, 0)
/-- Where a reading begins. -/
def startC (b : List UInt8) (k : UInt8) : RS := if b[0]? = some k then ⟨1, false⟩ else ⟨0, true⟩

/-- A row; what is gone. -/
structure RowP where
  key : List UInt8
  val : List UInt8
  time : Nat
structure GoneP where
  key : List UInt8
  time : Nat
def rRow (b : List UInt8) (s : RS) : RowP × RS :=
  let k := rTxt b 16 s
  let v := rTxt b 64 k.2
  let t := rNum b 1099511627775 v.2
  (⟨k.1, v.1, t.1⟩, t.2)
def rGone (b : List UInt8) (s : RS) : GoneP × RS :=
  let k := rTxt b 16 s
  let t := rNum b 1099511627775 k.2
  (⟨k.1, t.1⟩, t.2)
/-- What a reading answers: what was read, or nothing; the place of the fault, the code. -/
def ansC {α : Type} (zero x : α) (e : Nat × Nat) : α × Nat × Nat := (if e.2 = 0 then x else zero, e)
def decRow (b : List UInt8) : RowP × Nat × Nat :=
  let q := rRow b (startC b 82)
  ansC ⟨[], [], 0⟩ q.1 (endC b q.2 (isKey q.1.key))
def decGone (b : List UInt8) : GoneP × Nat × Nat :=
  let q := rGone b (startC b 71)
  ansC ⟨[], 0⟩ q.1 (endC b q.2 (isKey q.1.key))

theorem rNum_le (b : List UInt8) (m : Nat) (s : RS) : (rNum b m s).1 ≤ m := by
  unfold rNum
  cases tkAt b s.at_ with
  | none => simp
  | some p =>
    simp only
    split
    · simp
    · rename_i h
      simp only
      omega
theorem rTxt_le (b : List UInt8) (m : Nat) (s : RS) : (rTxt b m s).1.length ≤ m := by
  unfold rTxt
  cases h : txAt b s.at_ m with
  | none => simp
  | some p =>
    obtain ⟨t, nx⟩ := p
    simp only
    split
    · simp
    · simp only
      unfold txAt at h
      cases hk : tkAt b s.at_ with
      | none => rw [hk] at h; cases h
      | some q =>
        obtain ⟨n, k⟩ := q
        rw [hk] at h
        simp only at h
        split at h
        · simp only [Option.some.injEq, Prod.mk.injEq] at h
          rw [← h.1, List.length_take]
          omega
        · cases h
/-- Once a fault is met, nothing is read any more. -/
theorem rNum_bad (b : List UInt8) (m : Nat) (a : Nat) : rNum b m ⟨a, true⟩ = (0, ⟨a, true⟩) := by unfold rNum; cases tkAt b (a : Int) <;> simp
theorem rTxt_bad (b : List UInt8) (m : Nat) (a : Nat) : rTxt b m ⟨a, true⟩ = ([], ⟨a, true⟩) := by unfold rTxt; cases txAt b (a : Int) m <;> simp
theorem rFlag_bad (b : List UInt8) (a : Nat) : rFlag b ⟨a, true⟩ = (false, ⟨a, true⟩) := by unfold rFlag; cases b[a]? <;> simp
theorem rRow_bad (b : List UInt8) (a : Nat) : rRow b ⟨a, true⟩ = (⟨[], [], 0⟩, ⟨a, true⟩) := by unfold rRow; simp only [rTxt_bad, rNum_bad]
theorem rGone_bad (b : List UInt8) (a : Nat) : rGone b ⟨a, true⟩ = (⟨[], 0⟩, ⟨a, true⟩) := by unfold rGone; simp only [rTxt_bad, rNum_bad]
theorem startC_yes {b : List UInt8} {k : UInt8} (h : b[0]? = some k) : startC b k = ⟨1, false⟩ := by unfold startC; rw [if_pos h]
theorem startC_no {b : List UInt8} {k : UInt8} (h : b[0]? ≠ some k) : startC b k = ⟨0, true⟩ := by unfold startC; rw [if_neg h]
theorem endC_bad (b : List UInt8) (a : Nat) (r : Bool) : endC b ⟨a, true⟩ r = (a, 61) := by unfold endC; rw [if_pos (.inl rfl)]
theorem endC_less {b : List UInt8} {s : RS} (h : s.at_ < b.length) (r : Bool) : endC b s r = (s.at_, 61) := by unfold endC; rw [if_pos (.inr h)]
theorem endC_done {b : List UInt8} {a : Nat} (h : ¬ a < b.length) (r : Bool) : endC b ⟨a, false⟩ r = if r = false then (0, 60) else (0, 0) := by unfold endC; rw [if_neg (by simp; omega)]
end Go.Proofs.Ytggjipfdfpdecaa
/- Plain: commits and manifests: which are right, as which bytes they are written, how they are read; no program in sight. -/
namespace Go.Proofs.Ytggjipfdfpdecaa

/-- A text's bytes, its length ahead. -/
def txt (t : List UInt8) : List UInt8 := uvar t.length ++ t
def encRow (k v : List UInt8) (t : Nat) : List UInt8 := 82 :: (txt k ++ txt v ++ uvar t)
def encGone (k : List UInt8) (t : Nat) : List UInt8 := 71 :: (txt k ++ uvar t)

/-! ### commits -/
structure Wri where
  key : List UInt8
  val : List UInt8
  gone : Bool
instance : Inhabited Wri := ⟨⟨[], [], false⟩⟩
def wOk (x : Wri) : Bool := isKey x.key && isVal x.val && !(x.gone && !x.val.isEmpty)
/-- Is the k-th write right, and behind the one ahead of it? -/
def wAt (ws : List Wri) (k : Nat) : Bool :=
  match ws[k]? with
  | none => true
  | some x => wOk x && (k == 0 || (match ws[k - 1]? with | none => true | some p => Op.bytesLess p.key x.key))
def wsOk (ws : List Wri) : Bool := (List.range ws.length).all (wAt ws)
def comOk (t : Int) (ws : List Wri) : Bool := isTm t && decide (ws.length ≤ 64) && wsOk ws
def encW (x : Wri) : List UInt8 := if x.gone then 1 :: txt x.key else 0 :: (txt x.key ++ txt x.val)
def encWs (ws : List Wri) : List UInt8 := ws.flatMap encW
def encCom (t : Nat) (ws : List Wri) : List UInt8 := 67 :: (uvar t ++ uvar ws.length ++ encWs ws)

theorem wsOk_iff (ws : List Wri) : wsOk ws = true ↔ ∀ k, k < ws.length → wAt ws k = true := by
  unfold wsOk
  rw [List.all_eq_true]
  constructor
  · intro h k hk; exact h k (List.mem_range.2 hk)
  · intro h k hk; exact h k (List.mem_range.1 hk)
theorem wsOk_no {ws : List Wri} {k : Nat} (hk : k < ws.length) (h : wAt ws k = false) : wsOk ws = false := by
  apply bool_no
  intro h2
  rw [(wsOk_iff ws).1 h2 k hk] at h
  cases h
theorem encWs_take (ws : List Wri) (k : Nat) (hk : k < ws.length) : encWs (ws.take (k + 1)) = encWs (ws.take k) ++ encW ws[k] := by
  unfold encWs
  rw [List.take_succ_eq_append_getElem hk, List.flatMap_append, List.flatMap_singleton]
theorem wOk_bounds {x : Wri} (h : wOk x = true) : x.key.length ≤ 16 ∧ x.val.length ≤ 64 ∧ 1 ≤ x.key.length ∧ (x.gone = true → x.val = []) := by
  unfold wOk at h
  simp only [Bool.and_eq_true] at h
  obtain ⟨⟨h1, h2⟩, h3⟩ := h
  have k := (isKey_iff _).1 h1
  have v := (isVal_iff _).1 h2
  refine ⟨k.2, v, k.1, fun hg => ?_⟩
  rw [hg] at h3
  simpa using h3
theorem wsOk_bounds {ws : List Wri} (h : wsOk ws = true) (k : Nat) (hk : k < ws.length) : wOk ws[k] = true := by
  have := (wsOk_iff ws).1 h k hk
  unfold wAt at this
  rw [List.getElem?_eq_getElem hk] at this
  simp only [Bool.and_eq_true] at this
  exact this.1
theorem encW_le {x : Wri} (h : wOk x = true) : (encW x).length ≤ 101 := by
  obtain ⟨h1, h2, _, _⟩ := wOk_bounds h
  have u1 := uvar_len10 (n := x.key.length) (by omega)
  have u2 := uvar_len10 (n := x.val.length) (by omega)
  unfold encW txt
  split <;> simp <;> omega
theorem encWs_le {ws : List Wri} (h : ∀ k (hk : k < ws.length), wOk ws[k] = true) : (encWs ws).length ≤ 101 * ws.length := by
  induction ws with
  | nil => simp [encWs]
  | cons x r ih =>
    have h0 := encW_le (h 0 (by simp))
    have h1 := ih (fun k hk => h (k + 1) (by simpa using hk))
    simp only [encWs, List.flatMap_cons, List.length_append, List.length_cons] at h1 ⊢
    simp only [List.getElem_cons_zero] at h0
    omega

/-! ### reading -/
def rWri (b : List UInt8) (s : RS) : Wri × RS :=
  let f := rFlag b s
  let k := rTxt b 16 f.2
  if f.1 = true then (⟨k.1, [], true⟩, k.2) else
    let v := rTxt b 64 k.2
    (⟨k.1, v.1, false⟩, v.2)
/-- So many things, one behind the other, as long as there is no fault. -/
def rList {α : Type} (one : RS → α × RS) : Nat → RS → List α × RS
  | 0, s => ([], s)
  | n + 1, s => if s.bad = true then ([], s) else
    let x := one s
    let r := rList one n x.2
    (x.1 :: r.1, r.2)
def rCom (b : List UInt8) (s : RS) : (Nat × List Wri) × RS :=
  let t := rNum b 1099511627775 s
  let n := rNum b 64 t.2
  let l := rList (rWri b) n.1 n.2
  ((t.1, l.1), l.2)
def decCom (b : List UInt8) : (Nat × List Wri) × Nat × Nat :=
  let q := rCom b (startC b 67)
  ansC (0, []) q.1 (endC b q.2 (comOk q.1.1 q.1.2))

theorem rList_snoc {α : Type} (one : RS → α × RS) : ∀ (n : Nat) (s : RS), (rList one n s).2.bad = false → rList one (n + 1) s = ((rList one n s).1 ++ [(one (rList one n s).2).1], (one (rList one n s).2).2)
  | 0, s, h => by
    simp only [rList] at h ⊢
    rw [if_neg (by rw [h]; simp)]
    rfl
  | n + 1, s, h => by
    by_cases hb : s.bad = true
    · rw [rList, if_pos hb] at h
      rw [hb] at h; cases h
    · have e : rList one (n + 1) s = ((one s).1 :: (rList one n (one s).2).1, (rList one n (one s).2).2) := by rw [rList, if_neg hb]
      have e2 : rList one (n + 1 + 1) s = ((one s).1 :: (rList one (n + 1) (one s).2).1, (rList one (n + 1) (one s).2).2) := by rw [rList, if_neg hb]
      rw [e] at h ⊢
      rw [e2, rList_snoc one n (one s).2 h]
      rfl
theorem rList_stop {α : Type} (one : RS → α × RS) : ∀ (n k : Nat) (s : RS), k ≤ n → (rList one k s).2.bad = true → rList one n s = rList one k s
  | n, 0, s, _, h => by
    simp only [rList] at h
    rcases n with _ | n
    · rfl
    · show rList one (n + 1) s = ([], s)
      simp [rList, h]
  | 0, k + 1, s, hk, _ => by omega
  | n + 1, k + 1, s, hk, h => by
    by_cases hb : s.bad = true
    · rw [rList, if_pos hb, rList, if_pos hb]
    · have e : rList one (k + 1) s = ((one s).1 :: (rList one k (one s).2).1, (rList one k (one s).2).2) := by rw [rList, if_neg hb]
      rw [e] at h ⊢
      rw [rList, if_neg hb]
      simp only at h ⊢
      rw [rList_stop one n k (one s).2 (by omega) h]
theorem rList_len {α : Type} (one : RS → α × RS) : ∀ (n : Nat) (s : RS), (rList one n s).1.length ≤ n
  | 0, s => by simp [rList]
  | n + 1, s => by
    rw [rList]
    split
    · simp
    · have := rList_len one n (one s).2
      simp only [List.length_cons]
      omega
theorem rWri_at (b : List UInt8) (s : RS) : (rWri b s).2.at_ ≤ max s.at_ b.length := by
  have h1 := rFlag_at b s
  have h2 := rTxt_at b 16 (rFlag b s).2
  have h3 := rTxt_at b 64 (rTxt b 16 (rFlag b s).2).2
  unfold rWri
  simp only
  split
  · simp only; omega
  · simp only; omega
theorem rList_at {α : Type} (b : List UInt8) (one : RS → α × RS) (h : ∀ s, (one s).2.at_ ≤ max s.at_ b.length) : ∀ (n : Nat) (s : RS), (rList one n s).2.at_ ≤ max s.at_ b.length
  | 0, s => by simp only [rList]; omega
  | n + 1, s => by
    rw [rList]
    split
    · simp only; omega
    · have h1 := rList_at b one h n (one s).2
      have h2 := h s
      simp only
      omega
theorem rWri_bad (b : List UInt8) (a : Nat) : (rWri b ⟨a, true⟩).2 = ⟨a, true⟩ := by unfold rWri; simp only [rFlag_bad, rTxt_bad]; simp
theorem rList_bad {α : Type} (one : RS → α × RS) (n a : Nat) : rList one n ⟨a, true⟩ = ([], ⟨a, true⟩) := by cases n <;> simp [rList]
theorem rCom_bad (b : List UInt8) (a : Nat) : rCom b ⟨a, true⟩ = ((0, []), ⟨a, true⟩) := by unfold rCom; simp only [rNum_bad, rList_bad]
theorem rWri_len (b : List UInt8) (s : RS) : (rWri b s).1.key.length ≤ 16 ∧ (rWri b s).1.val.length ≤ 64 := by
  have h2 := rTxt_le b 16 (rFlag b s).2
  have h3 := rTxt_le b 64 (rTxt b 16 (rFlag b s).2).2
  unfold rWri
  simp only
  split
  · exact ⟨h2, by simp⟩
  · exact ⟨h2, h3⟩
end Go.Proofs.Ytggjipfdfpdecaa
/- Plain: manifests: which are right, as which bytes they are written, how they are read; no program in sight. -/
namespace Go.Proofs.Ytggjipfdfpdecaa

/-- A pair: its number, from where, to where. -/
structure Pai where
  num : Int
  from_ : Int
  to_ : Int
instance : Inhabited Pai := ⟨⟨0, 0, 0⟩⟩
/-- Where the k-th pair has to begin. -/
def atOf (ps : List Pai) (k : Nat) : Int := if k = 0 then 0 else match ps[k - 1]? with | none => 0 | some p => p.to_
def pOk (seen : List Int) (at_ : Int) (p : Pai) : Bool := isNo p.num && !seen.contains p.num && (p.from_ == at_) && decide (p.from_ < p.to_)
/-- Is the k-th pair right, behind those ahead of it? -/
def pAt (ps : List Pai) (k : Nat) : Bool := match ps[k]? with | none => true | some p => pOk ((ps.take k).map Pai.num) (atOf ps k) p
def psOk (ps : List Pai) : Bool := (List.range ps.length).all (pAt ps)
def manOk (t log : Int) (ps : List Pai) : Bool := isTm t && isNo log && decide (ps.length ≤ 16) && psOk ps && (atOf ps ps.length == t)
def encP (p : Pai) : List UInt8 := uvar p.num.toNat ++ (uvar p.from_.toNat ++ uvar p.to_.toNat)
def encPs (ps : List Pai) : List UInt8 := ps.flatMap encP
def encMan (t log : Nat) (ps : List Pai) : List UInt8 := 77 :: (uvar t ++ uvar log ++ uvar ps.length ++ encPs ps)

theorem psOk_iff (ps : List Pai) : psOk ps = true ↔ ∀ k, k < ps.length → pAt ps k = true := by
  unfold psOk
  rw [List.all_eq_true]
  constructor
  · intro h k hk; exact h k (List.mem_range.2 hk)
  · intro h k hk; exact h k (List.mem_range.1 hk)
theorem psOk_no {ps : List Pai} {k : Nat} (hk : k < ps.length) (h : pAt ps k = false) : psOk ps = false := by
  apply bool_no
  intro h2
  rw [(psOk_iff ps).1 h2 k hk] at h
  cases h
theorem encPs_take (ps : List Pai) (k : Nat) (hk : k < ps.length) : encPs (ps.take (k + 1)) = encPs (ps.take k) ++ encP ps[k] := by
  unfold encPs
  rw [List.take_succ_eq_append_getElem hk, List.flatMap_append, List.flatMap_singleton]
theorem atOf_zero (ps : List Pai) : atOf ps 0 = 0 := by unfold atOf; rw [if_pos rfl]
theorem atOf_succ (ps : List Pai) (k : Nat) (hk : k < ps.length) : atOf ps (k + 1) = ps[k].to_ := by
  unfold atOf
  rw [if_neg (by omega), Nat.add_sub_cancel, List.getElem?_eq_getElem hk]
theorem pAt_eq (ps : List Pai) (k : Nat) (hk : k < ps.length) : pAt ps k = pOk ((ps.take k).map Pai.num) (atOf ps k) ps[k] := by
  unfold pAt
  rw [List.getElem?_eq_getElem hk]
theorem pOk_bounds {l : List Int} {a : Int} {p : Pai} (h : pOk l a p = true) : (1 ≤ p.num ∧ p.num ≤ 2147483647) ∧ p.from_ = a ∧ p.from_ < p.to_ := by
  unfold pOk at h
  simp only [Bool.and_eq_true, beq_iff_eq, decide_eq_true_eq] at h
  exact ⟨(isNo_iff _).1 h.1.1.1, h.1.2, h.2⟩
/-- What is right begins behind what is right: no place is below nothing. -/
theorem atOf_nonneg {ps : List Pai} (h : psOk ps = true) : ∀ k, k ≤ ps.length → 0 ≤ atOf ps k
  | 0, _ => by rw [atOf_zero]; omega
  | k + 1, hk => by
    have h0 := atOf_nonneg h k (by omega)
    have h1 := (psOk_iff ps).1 h k (by omega)
    rw [pAt_eq ps k (by omega)] at h1
    have h2 := pOk_bounds h1
    rw [atOf_succ ps k (by omega)]
    omega
theorem atOf_mono {ps : List Pai} (h : psOk ps = true) (k j : Nat) (hj : k + j ≤ ps.length) : atOf ps k ≤ atOf ps (k + j) := by
  induction j with
  | zero => exact Int.le_refl _
  | succ j ih =>
    have h0 := ih (by omega)
    have h1 := (psOk_iff ps).1 h (k + j) (by omega)
    rw [pAt_eq ps (k + j) (by omega)] at h1
    have h2 := pOk_bounds h1
    rw [show k + (j + 1) = (k + j) + 1 from by omega, atOf_succ ps (k + j) (by omega)]
    omega
/-- What a right manifest holds. -/
theorem manOk_bounds {t log : Int} {ps : List Pai} (h : manOk t log ps = true) : (0 ≤ t ∧ t < 1099511627776) ∧ (1 ≤ log ∧ log ≤ 2147483647) ∧ ps.length ≤ 16 ∧ psOk ps = true ∧ atOf ps ps.length = t ∧ ∀ k (hk : k < ps.length), (1 ≤ ps[k].num ∧ ps[k].num ≤ 2147483647) ∧ (0 ≤ ps[k].from_ ∧ ps[k].from_ < 1099511627776) ∧ (0 ≤ ps[k].to_ ∧ ps[k].to_ < 1099511627776) := by
  unfold manOk at h
  simp only [Bool.and_eq_true, beq_iff_eq, decide_eq_true_eq] at h
  obtain ⟨⟨⟨⟨h1, h2⟩, h3⟩, h4⟩, h5⟩ := h
  have ht := (isTm_iff _).1 h1
  refine ⟨ht, (isNo_iff _).1 h2, h3, h4, h5, fun k hk => ?_⟩
  have h6 := (psOk_iff ps).1 h4 k hk
  rw [pAt_eq ps k hk] at h6
  have h7 := pOk_bounds h6
  have h8 := atOf_nonneg h4 k (by omega)
  have h9 := atOf_mono h4 (k + 1) (ps.length - (k + 1)) (by omega)
  rw [show k + 1 + (ps.length - (k + 1)) = ps.length from by omega, h5, atOf_succ ps k hk] at h9
  refine ⟨h7.1, ?_, ?_⟩ <;> omega

/-! ### reading -/
def rPai (b : List UInt8) (s : RS) : Pai × RS :=
  let n := rNum b 2147483647 s
  let f := rNum b 1099511627775 n.2
  let t := rNum b 1099511627775 f.2
  (⟨(n.1 : Nat), (f.1 : Nat), (t.1 : Nat)⟩, t.2)
def rMan (b : List UInt8) (s : RS) : (Nat × Nat × List Pai) × RS :=
  let t := rNum b 1099511627775 s
  let g := rNum b 2147483647 t.2
  let n := rNum b 16 g.2
  let l := rList (rPai b) n.1 n.2
  ((t.1, g.1, l.1), l.2)
def decMan (b : List UInt8) : (Nat × Nat × List Pai) × Nat × Nat :=
  let q := rMan b (startC b 77)
  ansC (0, 0, []) q.1 (endC b q.2 (manOk q.1.1 q.1.2.1 q.1.2.2))
theorem rPai_at (b : List UInt8) (s : RS) : (rPai b s).2.at_ ≤ max s.at_ b.length := by
  have h1 := rNum_at b 2147483647 s
  have h2 := rNum_at b 1099511627775 (rNum b 2147483647 s).2
  have h3 := rNum_at b 1099511627775 (rNum b 1099511627775 (rNum b 2147483647 s).2).2
  unfold rPai
  simp only
  omega
theorem rPai_bad (b : List UInt8) (a : Nat) : (rPai b ⟨a, true⟩).2 = ⟨a, true⟩ := by unfold rPai; simp only [rNum_bad]
theorem rMan_bad (b : List UInt8) (a : Nat) : rMan b ⟨a, true⟩ = ((0, 0, []), ⟨a, true⟩) := by unfold rMan; simp only [rNum_bad, rList_bad]
theorem rMan_len {b : List UInt8} {s s' : RS} {t g : Nat} {ps : List Pai} (h : ((t, g, ps), s') = rMan b s) : ps.length ≤ 16 := by
  unfold rMan at h
  simp only [Prod.mk.injEq] at h
  obtain ⟨⟨_, _, rfl⟩, _⟩ := h
  exact Nat.le_trans (rList_len _ _ _) (rNum_le _ _ _)
end Go.Proofs.Ytggjipfdfpdecaa
/- Plain: the document's examples of records. -/
namespace Go.Proofs.Ytggjipfdfpdecaa

def exW : List Wri := [⟨[97], [120], false⟩, ⟨[98], [], true⟩]
theorem exW_ok : comOk 300 exW = true := by rfl
theorem exW_enc : encCom (300 : Int).toNat exW = [67, 172, 2, 2, 0, 1, 97, 1, 120, 1, 1, 98] := by kernel_rfl
theorem exC_dec : decCom [67, 0, 1, 2] = ((0, []), 3, 61) := by rfl
theorem exM_dec : decMan [77, 5, 2, 1, 1, 0, 5] = ((5, 2, [⟨1, 0, 5⟩]), 0, 0) := by kernel_rfl
theorem exR_dec : decRow [82, 0, 0, 0] = (⟨[], [], 0⟩, 0, 60) := by rfl
end Go.Proofs.Ytggjipfdfpdecaa
/- The words of this seat's proofs: bytes as values, a slice of bytes that reads, a row of bytes of the call's own. -/
namespace Go.Proofs.Ytggjipfdfpdecaa
open Go.RowKit

theorem info5 : (Try.prog.info? 5).map (fun i => (i.zero, i.size, i.bytes)) = some (some (.int .u8 0), 1, 1) := by kernel_rfl

/-- A byte as a value; bytes as cells. -/
def bv (b : UInt8) : Value := .int .u8 (b.toNat : Int)
def bvs (l : List UInt8) : List Value := l.map bv
theorem bvs_length (l : List UInt8) : (bvs l).length = l.length := by simp [bvs]
theorem bvs_append (l r : List UInt8) : bvs (l ++ r) = bvs l ++ bvs r := by simp [bvs]
theorem bvs_get (l : List UInt8) (j : Nat) (h : j < l.length) : (bvs l)[j]? = some (bv l[j]) := by simp [bvs, h]
theorem bvs_one (l : List UInt8) : ∀ u ∈ bvs l, u.oneCell' = true := by
  intro u hu
  simp only [bvs, List.mem_map] at hu
  obtain ⟨b, _, rfl⟩ := hu
  rfl

/-- The value v reads as the bytes l. -/
def RdB (w : World) (v : Value) (l : List UInt8) : Prop :=
  ∃ A c, v = .slice A l.length c ∧ l.length ≤ c ∧ c ≤ maxLen ∧ (0 < l.length → ∃ ad : Addr, A = some ad ∧ ∀ j (h : j < l.length), w.cell? (ad.add j) = some (bv l[j]))

theorem RdB.nil (w : World) : RdB w (.slice none 0 0) [] := ⟨none, 0, rfl, Nat.le_refl _, by simp [maxLen], fun h => by simp at h⟩

theorem RdB.keep {w w' : World} {v : Value} {l : List UInt8} (h : RdB w v l) (hc : ∀ p : Addr, p.block < w.heap.size → w'.cell? p = w.cell? p) : RdB w' v l := by
  obtain ⟨A, c, hv, h1, h2, h3⟩ := h
  refine ⟨A, c, hv, h1, h2, fun hp => ?_⟩
  obtain ⟨ad, hA, hcell⟩ := h3 hp
  refine ⟨ad, hA, fun j hj => ?_⟩
  have := hcell j hj
  rw [hc _ (World.block_lt_of_cell? w _ this), this]

theorem RdB.below {w w' : World} {v : Value} {l : List UInt8} (h : RdB w v l) (hb : Below w.heap.size w w') : RdB w' v l := h.keep fun _ hp => hb.cell hp

/-- A row of bytes of the call's own. -/
def Own (w : World) (base : Nat) (v : Value) (l : List UInt8) : Prop := w.ownsRow base 5 1 v l.length (bvs l)

theorem Own.nil (w : World) (base : Nat) : Own w base (.slice none 0 0) [] := ⟨by simp [bvs], .inl ⟨rfl, rfl⟩⟩

theorem addp (g j : Nat) : (⟨g, 0, none⟩ : Addr).add j = ⟨g, j, none⟩ := by unfold Addr.add; split <;> simp_all

theorem Own.rd {w : World} {base : Nat} {v : Value} {l : List UInt8} (h : Own w base v l) : RdB w v l := by
  have h0 := h
  rcases h.2 with ⟨rfl, hn⟩ | ⟨g, cap, cur, rfl, hb, hg, hn, hm, hs, ht⟩
  · obtain rfl : l = [] := List.eq_nil_of_length_eq_zero hn
    exact RdB.nil w
  · refine ⟨_, cap, rfl, hn, hm, fun _ => ⟨_, rfl, fun j hj => ?_⟩⟩
    exact h0.cells (g := g) rfl j _ (bvs_get l j hj)

theorem Own.below {w w' : World} {base : Nat} {v : Value} {l : List UInt8} (h : Own w base v l) (hb : Below w.heap.size w w') : Own w' base v l := by
  refine h.kept (row := none) ⟨hb.os, hb.tape, hb.output, hb.size, fun k hk _ => hb.block k hk⟩ ?_
  cases v.ownBlock <;> simp


section
variable {ops : Array Oper} {rest : List Oper} {o : Oper} {a : Act} {Q : Exit → Act → World → Prop}

/-- append(v, x): v a row of the call's own. -/
theorem own_append1 {W : World} (base : Nat) (hgd : o.guard = none) (s x : Operand)
    (ho : o.op = .call { callee := .builtin .append, args := #[s, x], argTypes := #[25, 25] })
    (v : Value) (l : List UInt8) (b : UInt8) (y : Value) (hy : y = bv b) (hs : a.eval s = v) (hx : a.eval x = .slice (some ⟨W.heap.size, 0, none⟩) 1 1)
    (HO : Own W base v l) (hbase : base ≤ W.heap.size) (hl : l.length + 1 ≤ 140737488355328)
    (h : ∀ v1 w1, Own w1 base v1 (l ++ [b]) → Below base W w1 → W.grownBy w1 v.ownBlock → (v1.ownBlock = v.ownBlock ∨ ∃ k, v1.ownBlock = some k ∧ W.heap.size ≤ k) → wpList Try.prog ops Q rest (a.put o.dst v1) w1) :
    wpList Try.prog ops Q (o :: rest) a (W.alloc (.cells #[y] 5)) := by
  subst hy
  obtain ⟨i0, hi, hz0, hz1, hz2⟩ := info_parts info5
  refine wpList_append_own_at (W.alloc (.cells #[bv b] 5)) hgd s x 25 ho base 5 i0 (.int .u8 0) 1 1 Try.underlying25 hi hz0 hz1 hz2 rfl (by omega) v l.length (bvs l) hs (HO.alloc _) ⟨W.heap.size, 0, none⟩ 1 1 [bv b] hx rfl
    (World.news_of_block (cs := #[bv b]) (t := 5) (fr := (0, 0)) (heap_alloc_new W _)) (by intro u hu; simp at hu; subst hu; rfl) (by simp only [maxLen]; omega) (by omega) (by simp; omega) ?_
  intro v1 w1 hown hg _ hat
  have hown' : Own w1 base v1 (l ++ [b]) := by
    unfold Own
    rw [bvs_append]
    simpa [bvs] using hown
  refine h v1 w1 hown' (((Below.refl base W).alloc hbase _).grown hg (by simp; omega) ?_) (World.grownBy.trans (World.grownBy_alloc W _ _) hg) ?_
  · intro k hk
    exact (HO.lt k hk).1
  · rcases hat with hat | hat
    · exact .inl hat
    · exact .inr ⟨_, hat, by simp⟩

/-- append(v, r...): v a row of the call's own, r a slice that reads. -/
theorem own_append_row {W : World} (base : Nat) (hgd : o.guard = none) (s x : Operand)
    (ho : o.op = .call { callee := .builtin .append, args := #[s, x], argTypes := #[25, 25] })
    (v u : Value) (l r : List UInt8) (hs : a.eval s = v) (hx : a.eval x = u)
    (HO : Own W base v l) (HR : RdB W u r) (hbase : base ≤ W.heap.size) (hl : l.length + r.length ≤ 140737488355328)
    (h : ∀ v1 w1, Own w1 base v1 (l ++ r) → Below base W w1 → W.grownBy w1 v.ownBlock → (v1.ownBlock = v.ownBlock ∨ ∃ k, v1.ownBlock = some k ∧ W.heap.size ≤ k) → wpList Try.prog ops Q rest (a.put o.dst v1) w1) :
    wpList Try.prog ops Q (o :: rest) a W := by
  obtain ⟨i0, hi, hz0, hz1, hz2⟩ := info_parts info5
  obtain ⟨A, c, hu, hc, hm, hcell⟩ := HR
  subst hu
  have hrun : ∃ v1 w1, (Builtin.append_ #[25, 25] o.type #[v, .slice A r.length c]).run Try.prog W = .ok v1 w1 ∧ Own w1 base v1 (l ++ r) ∧ W.grownBy w1 v.ownBlock ∧ (v1.ownBlock = v.ownBlock ∨ v1.ownBlock = some W.heap.size) := by
    rcases A with _ | ad
    · have h0 : r.length = 0 := by
        rcases Nat.eq_zero_or_pos r.length with h0 | h0
        · exact h0
        · obtain ⟨ad, h, _⟩ := hcell h0
          cases h
      obtain rfl : r = [] := List.eq_nil_of_length_eq_zero h0
      refine ⟨v, W, ?_, by simpa using HO, World.grownBy.refl W _, .inl rfl⟩
      rcases HO.2 with ⟨rfl, hn⟩ | ⟨g, cap, cur, rfl, _, _, hnc, _⟩
      · simp [Builtin.append_, run_underlying Try.underlying25, sizeOf, typeInfo, hi, Builtin.lenOf, Builtin.firstCells]
      · simp [Builtin.append_, run_underlying Try.underlying25, sizeOf, typeInfo, hi, Builtin.lenOf, Builtin.firstCells, hnc, storeCells]
    · have hcells : ∀ j q, (bvs r)[j]? = some q → W.cell? (ad.add j) = some q := by
        intro j q hq
        have hj : j < r.length := by
          rcases Nat.lt_or_ge j r.length with h | h
          · exact h
          · simp [bvs, List.getElem?_eq_none h] at hq
        obtain ⟨ad', h', hcc⟩ := hcell (by omega)
        obtain rfl : ad = ad' := Option.some.inj h'
        rw [bvs_get r j hj] at hq
        rw [hcc j hj, hq]
      obtain ⟨v1, w1, hr, h2, h3, _, h5⟩ := run_append_own_at (P := Try.prog) W base 25 o.type 5 i0 (.int .u8 0) 1 1 Try.underlying25 hi hz0 hz1 hz2 rfl (by omega) v l.length (bvs l) HO ad r.length c (bvs r) (by simp [bvs]) hcells
        (bvs_one r) (by simp only [maxLen]; omega) (by omega) hbase
      exact ⟨v1, w1, hr, by unfold Own; rw [bvs_append, List.length_append]; exact h2, h3, h5⟩
  obtain ⟨v1, w1, hr, hown, hg, hat⟩ := hrun
  refine wpList_plain hgd fun K hK => ?_
  unfold Oper.wp execOp
  simp only [ho, resolve, invoke, builtin, Sem.run_bind, Sem.run_pure, Result.andThen_ok, List.map_toArray, List.map_cons, List.map_nil, hs, hx, hr]
  refine hK _ _ (h v1 w1 hown ((Below.refl base W).grown hg hbase fun k hk => (HO.lt k hk).1) hg ?_)
  rcases hat with hat | hat
  · exact .inl hat
  · exact .inr ⟨_, hat, Nat.le_refl _⟩

/-- append(v, y...): y a string. -/
theorem own_append_str {W : World} (base : Nat) (hgd : o.guard = none) (s x : Operand)
    (ho : o.op = .call { callee := .builtin .append, args := #[s, x], argTypes := #[25, 9] })
    (v : Value) (l : List UInt8) (y : ByteArray) (hs : a.eval s = v) (hx : a.eval x = .string y)
    (HO : Own W base v l) (hbase : base ≤ W.heap.size) (hl : l.length + y.size ≤ 140737488355328)
    (h : ∀ v1 w1, Own w1 base v1 (l ++ y.data.toList) → Below base W w1 → W.grownBy w1 v.ownBlock → wpList Try.prog ops Q rest (a.put o.dst v1) w1) :
    wpList Try.prog ops Q (o :: rest) a W := by
  obtain ⟨i0, hi, hz0, hz1, hz2⟩ := info_parts info5
  refine Lib.wpList_append_own_string W hgd s x 25 9 ho base 5 i0 Try.underlying25 Try.underlying9 hi hz0 hz1 hz2 v l.length (bvs l) hs HO y hx (by simp only [maxLen]; omega) hl hbase ?_
  intro v1 w1 hown hg _
  have hy : y.data.toList.length = y.size := by rw [Array.length_toList]; rfl
  have hc : bvs (l ++ y.data.toList) = bvs l ++ Lib.strCells y := by
    rw [bvs_append]
    congr 1
  refine h v1 w1 (by unfold Own; rw [List.length_append, hy, hc]; exact hown) ((Below.refl base W).grown hg hbase fun k hk => (HO.lt k hk).1) hg
end

/-! Values of bytes -/
theorem bv_of (k : Nat) (h : k < 256) : Value.int .u8 (k : Int) = bv (UInt8.ofNat k) := by
  simp [bv, Nat.mod_eq_of_lt h]
theorem bv_nat (b : UInt8) : bv b = Value.int .u8 (b.toNat : Int) := rfl
end Go.Proofs.Ytggjipfdfpdecaa
/- The walks of num.number, slices.Clone, num.Put, num.PutText: they lay a number's, a text's bytes behind a copy of what came in. -/
namespace Go.Proofs.Ytggjipfdfpdecaa
open Go.RowKit

theorem or128 (k : Nat) : Value.int .u8 (bits .or .u8 ((k : Int) % 256) 128) = bv (UInt8.ofNat (k % 128 + 128)) := by
  have h : ((k : Int) % 256) = ((k % 256 : Nat) : Int) := by omega
  rw [h]
  have := u8_or_nat (k % 256) 128 (by omega) (by omega)
  have e : k % 256 ||| 128 = k % 128 + 128 := by
    have hk : k % 256 < 256 := by omega
    have hm : k % 128 = (k % 256) % 128 := by omega
    rw [hm]
    generalize k % 256 = j at hk
    revert j
    decide +kernel
  rw [e] at this
  rw [show (128 : Int) = ((128 : Nat) : Int) from rfl, this]
  exact bv_of _ (by omega)

set_option maxRecDepth 100000 in
set_option maxHeartbeats 400000 in
theorem number_any (base : Nat) (v : Value) (l : List UInt8) (n : Nat) (w : World) (hn : n < 18446744073709551616) (hl : l.length + 10 ≤ 140737488355328) (hbase : base ≤ w.heap.size) (hown : Own w base v l) :
    Calls Try.prog 71 #[v, .int .u64 n] w fun e w' => ∃ v', e = .returned v' ∧ Own w' base v' (l ++ uvar n) ∧ Below base w w' := by
  have HN := Lib.hid hn; clear hn
  have HL := Lib.hid hl; clear hl
  go_enter Try.func71, Try.ntmps71
  go_wp2
  go_loopw [0, 1] (fun v0 v1 wr => ∃ (k : Nat) (l1 : List UInt8), v1 = .int .u64 k ∧ k ≤ n ∧ l1 ++ uvar k = l ++ uvar n ∧ Own wr base v0 l1 ∧ Below base w wr) (fun _ v1 _ => (intOf v1).toNat)
  case atStart => exact ⟨n, l, rfl, Nat.le_refl _, rfl, hown, Below.refl _ _⟩
  case round =>
    obtain ⟨k, l1, rfl, hk, heq, ho, hb⟩ := hrel
    have hlen : l1.length + 1 ≤ 140737488355328 := by
      have h1 := congrArg List.length heq
      rw [List.length_append, List.length_append] at h1
      have := uvar_len10 HN.out
      have := uvar_pos k
      have := HL.out
      omega
    have HLen := Lib.hid hlen; clear hlen
    have HE := Lib.hid heq; clear heq
    have HO := Lib.hid ho; clear ho
    have HB := Lib.hid hb; clear hb
    by_cases h : k < 128
    · go_wp2_with (at_builtin; refine own_append1 base rfl (.tmp 15) (.tmp 18) rfl _ l1 (UInt8.ofNat k) _ ?hy rfl rfl HO.out ?hb ?hl ?_; (case hy => exact bv_of _ (by omega)); (case hb => exact Nat.le_trans hbase HB.out.size); (case hl => exact HLen.out); intro v1 w1 hown hb1 hg hat)
      go_ret
      have e := HE.out
      rw [uvar_lt h] at e
      exact ⟨v1, rfl, by rw [← e]; exact hown, HB.out.trans hb1⟩
    · go_wp2_with (at_builtin; refine own_append1 base rfl (.tmp 7) (.tmp 11) rfl _ l1 (UInt8.ofNat (k % 128 + 128)) _ ?hy rfl rfl HO.out ?hb ?hl ?_; (case hy => exact or128 k); (case hb => exact Nat.le_trans hbase HB.out.size); (case hl => exact HLen.out); intro v1 w1 hown hb1 hg hat)
      have e := HE.out
      rw [uvar_ge h] at e
      go_roundw
      case rel => exact ⟨k / 128, l1 ++ [UInt8.ofNat (k % 128 + 128)], by simp, by omega, by rw [← e]; simp, hown, HB.out.trans hb1⟩
      case measure => simp [intOf]; omega

theorem RdB.none {w : World} {n c : Nat} {l : List UInt8} (h : RdB w (.slice .none n c) l) : l = [] := by
  obtain ⟨A, c', hv, _, _, h3⟩ := h
  rcases l with _ | ⟨x, l⟩
  · rfl
  · obtain ⟨ad, hA, _⟩ := h3 (by simp)
    subst hA
    cases hv

set_option maxHeartbeats 400000 in
theorem clone_any (v : Value) (l : List UInt8) (w : World) (hr : RdB w v l) (hl : l.length ≤ 140737488355328) :
    Calls Try.prog 72 #[v] w fun e w' => ∃ v', e = .returned v' ∧ Own w' w.heap.size v' l ∧ Below w.heap.size w w' := by
  have hr0 := hr
  obtain ⟨A, c, rfl, _⟩ := hr0
  have HL := Lib.hid hl; clear hl
  have HR := Lib.hid hr; clear hr
  cases A with
  | none =>
    have hq := fun W : World => Lib.run_eql_slice_nil (P := Try.prog) W 25 5 none l.length c 0 0 Try.underlying25
    go_enter Try.func72, Try.ntmps72
    go_wp2
    go_ret
    obtain rfl := HR.out.none
    exact ⟨_, rfl, Own.nil _ _, Below.refl _ _⟩
  | some ad =>
    have hq := fun W : World => Lib.run_eql_slice_nil (P := Try.prog) W 25 5 (some ad) l.length c 0 0 Try.underlying25
    have hz : RdB (w.alloc (.cells #[] 5)) (.slice (some ad) l.length c) l := HR.out.below ((Below.refl _ _).alloc (Nat.le_refl _) _)
    have ho : Own (w.alloc (.cells #[] 5)) w.heap.size (.slice (some ⟨w.heap.size, 0, none⟩) 0 0) [] := World.ownsRow_made w #[] 0 (Nat.le_refl _) (by simp [maxLen]) (by simp)
    have HZ := Lib.hid hz; clear hz
    have HO := Lib.hid ho; clear ho
    go_enter Try.func72, Try.ntmps72
    go_wp2_with (at_builtin; refine own_append_row w.heap.size rfl (.tmp 5) (.tmp 6) rfl _ _ [] l rfl rfl HO.out HZ.out ?hb ?hl ?_; (case hb => simp); (case hl => have := HL.out; simp; omega); intro v1 w1 hown hb1 hg hat)
    go_ret
    exact ⟨_, rfl, hown, ((Below.refl w.heap.size w).alloc (Nat.le_refl _) _).trans hb1⟩

set_option maxHeartbeats 400000 in
theorem put_any (v : Value) (l : List UInt8) (n : Nat) (w : World) (hr : RdB w v l) (hn : n < 18446744073709551616) (hl : l.length + 10 ≤ 140737488355328) :
    Calls Try.prog 26 #[v, .int .u64 n] w fun e w' => ∃ v', e = .returned v' ∧ Own w' w.heap.size v' (l ++ uvar n) ∧ Below w.heap.size w w' := by
  have HN := Lib.hid hn; clear hn
  have HL := Lib.hid hl; clear hl
  have HR := Lib.hid hr; clear hr
  go_enter Try.func26, Try.ntmps26
  go_wp2_with fail
  refine (clone_any v l _ HR.out (by have := HL.out; omega)).mono ?_
  rintro e w1 ⟨v1, rfl, ho1, hb1⟩
  have HO1 := Lib.hid ho1; clear ho1
  have HB1 := Lib.hid hb1; clear hb1
  go_wp2_with fail
  refine (number_any w.heap.size v1 l n _ HN.out HL.out HB1.out.size HO1.out).mono ?_
  rintro e w2 ⟨v2, rfl, ho2, hb2⟩
  have HO2 := Lib.hid ho2; clear ho2
  have HB2 := Lib.hid hb2; clear hb2
  go_wp2_with fail
  go_ret
  exact ⟨_, rfl, HO2.out, HB1.out.trans HB2.out⟩

set_option maxHeartbeats 400000 in
theorem putText_any (v : Value) (l : List UInt8) (s : ByteArray) (w : World) (hr : RdB w v l) (hl : l.length + s.size + 10 ≤ 140737488355328) :
    Calls Try.prog 28 #[v, .string s] w fun e w' => ∃ v', e = .returned v' ∧ Own w' w.heap.size v' (l ++ uvar s.size ++ s.data.toList) ∧ Below w.heap.size w w' := by
  have hs : s.size ≤ 140737488355328 := by omega
  have HL := Lib.hid hl; clear hl
  have HR := Lib.hid hr; clear hr
  go_enter Try.func28, Try.ntmps28
  go_wp2_with fail
  refine (clone_any v l _ HR.out (by have := HL.out; omega)).mono ?_
  rintro e w1 ⟨v1, rfl, ho1, hb1⟩
  have HO1 := Lib.hid ho1; clear ho1
  have HB1 := Lib.hid hb1; clear hb1
  go_wp2_with fail
  refine (number_any w.heap.size v1 l s.size _ (by omega) (by have := HL.out; omega) HB1.out.size HO1.out).mono ?_
  rintro e w2 ⟨v2, rfl, ho2, hb2⟩
  have HO2 := Lib.hid ho2; clear ho2
  have HB2 := Lib.hid hb2; clear hb2
  go_wp2_with (at_builtin; refine own_append_str w.heap.size rfl (.tmp 10) (.tmp 11) rfl _ (l ++ uvar s.size) s rfl rfl HO2.out ?hb ?hl ?_; (case hb => exact Nat.le_trans HB1.out.size HB2.out.size); (case hl => have h1 := HL.out; have h2 := uvar_len10 (n := s.size) (by omega); simp; omega); intro v3 w3 hown hb3 hg)
  go_ret
  exact ⟨_, rfl, hown, (HB1.out.trans HB2.out).trans hb3⟩
end Go.Proofs.Ytggjipfdfpdecaa

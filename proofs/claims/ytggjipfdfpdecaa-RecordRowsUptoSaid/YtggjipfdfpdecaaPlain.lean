/- Plain mathematics of numbers as bytes; no program in sight. -/
namespace Go.Proofs.Ytggjipfdfpdecaa

/-- A number's bytes. -/
def uvar (n : Nat) : List UInt8 := if n < 128 then [UInt8.ofNat n] else UInt8.ofNat (n % 128 + 128) :: uvar (n / 128)
termination_by n
decreasing_by omega

theorem uvar_lt {n : Nat} (h : n < 128) : uvar n = [UInt8.ofNat n] := by rw [uvar, if_pos h]
theorem uvar_ge {n : Nat} (h : ¬ n < 128) : uvar n = UInt8.ofNat (n % 128 + 128) :: uvar (n / 128) := by rw [uvar, if_neg h]

theorem uvar_len : ∀ (k n : Nat), n < 128 ^ k → 1 ≤ k → (uvar n).length ≤ k
  | 0, _, _, h => by omega
  | k + 1, n, h, _ => by
    by_cases hn : n < 128
    · rw [uvar_lt hn]; simp
    · rw [uvar_ge hn]
      have hk : 1 ≤ k := by
        rcases Nat.eq_zero_or_pos k with h0 | h0
        · subst h0; simp at h; omega
        · exact h0
      have := uvar_len k (n / 128) (by rw [Nat.pow_succ] at h; omega) hk
      simp; omega

theorem uvar_len10 {n : Nat} (h : n < 18446744073709551616) : (uvar n).length ≤ 10 := uvar_len 10 n (by omega) (by omega)
theorem uvar_pos (n : Nat) : 1 ≤ (uvar n).length := by
  rw [uvar]; split <;> simp


/-- No number's bytes are the beginning of another one's. -/
theorem uvar_prefix : ∀ (n m : Nat) (r r' : List UInt8), uvar n ++ r = uvar m ++ r' → n = m ∧ r = r' := by
  intro n
  induction n using uvar.induct with
  | case1 n hn =>
    intro m r r' h
    rw [uvar_lt hn] at h
    by_cases hm : m < 128
    · rw [uvar_lt hm] at h
      simp only [List.cons_append, List.nil_append, List.cons.injEq] at h
      have := congrArg UInt8.toNat h.1
      simp only [UInt8.toNat_ofNat'] at this
      exact ⟨by omega, h.2⟩
    · rw [uvar_ge hm] at h
      simp only [List.cons_append, List.nil_append, List.cons.injEq] at h
      have := congrArg UInt8.toNat h.1
      simp only [UInt8.toNat_ofNat'] at this
      omega
  | case2 n hn ih =>
    intro m r r' h
    rw [uvar_ge hn] at h
    by_cases hm : m < 128
    · rw [uvar_lt hm] at h
      simp only [List.cons_append, List.nil_append, List.cons.injEq] at h
      have := congrArg UInt8.toNat h.1
      simp only [UInt8.toNat_ofNat'] at this
      omega
    · rw [uvar_ge hm] at h
      simp only [List.cons_append, List.cons.injEq] at h
      have := congrArg UInt8.toNat h.1
      simp only [UInt8.toNat_ofNat'] at this
      obtain ⟨h1, h2⟩ := ih _ _ _ h.2
      exact ⟨by omega, h2⟩

theorem uvar_take {n m : Nat} (h : (uvar m).take (uvar n).length = uvar n) : n = m := by
  have h1 : uvar n ++ (uvar m).drop (uvar n).length = uvar m ++ [] := by
    conv => lhs; lhs; rw [← h]
    rw [List.take_append_drop, List.append_nil]
  exact (uvar_prefix _ _ _ _ h1).1

/-- A number is read: from its i-th byte on, what was read so far being acc. -/
def tkGo (i acc : Nat) : List UInt8 → Option (Nat × Nat)
  | [] => none
  | c :: r => if i ≥ 10 then none else if i = 9 ∧ 1 < c.toNat then none else if 128 ≤ c.toNat then tkGo (i + 1) (acc + c.toNat % 128 * 128 ^ i) r else if 0 < i ∧ c.toNat = 0 then none else some (acc + c.toNat % 128 * 128 ^ i, i + 1)

/-- The number at a place, and the place behind it. -/
def tkAt (l : List UInt8) (at_ : Int) : Option (Nat × Nat) := if 0 ≤ at_ ∧ at_ < l.length then (tkGo 0 0 (l.drop at_.toNat)).map fun p => (p.1, at_.toNat + p.2) else none

theorem tkGo_ten (acc : Nat) (l : List UInt8) : tkGo 10 acc l = none := by cases l <;> simp [tkGo]

/-- What is put is read. -/
theorem tkGo_uvar : ∀ (n i acc : Nat) (r : List UInt8), i ≤ 9 → n * 128 ^ i < 18446744073709551616 → (0 < i → 0 < n) → tkGo i acc (uvar n ++ r) = some (acc + n * 128 ^ i, i + (uvar n).length) := by
  intro n
  induction n using uvar.induct with
  | case1 n hn =>
    intro i acc r hi hb hz
    rw [uvar_lt hn]
    have e : (UInt8.ofNat n).toNat = n := by rw [UInt8.toNat_ofNat']; omega
    simp only [List.cons_append, List.nil_append, tkGo, e, List.length_cons, List.length_nil]
    rw [if_neg (by omega), if_neg, if_neg (by omega), if_neg (by omega)]
    · rw [Nat.mod_eq_of_lt hn]
    · rintro ⟨rfl, h1⟩
      have : 2 * 128 ^ 9 ≤ n * 128 ^ 9 := Nat.mul_le_mul_right _ h1
      omega
  | case2 n hn ih =>
    intro i acc r hi hb hz
    rw [uvar_ge hn]
    have e : (UInt8.ofNat (n % 128 + 128)).toNat = n % 128 + 128 := by rw [UInt8.toNat_ofNat']; omega
    have h9 : i ≠ 9 := by
      rintro rfl
      have : 128 * 128 ^ 9 ≤ n * 128 ^ 9 := Nat.mul_le_mul_right _ (by omega)
      omega
    have h1 : n * 128 ^ i = (n / 128) * 128 ^ (i + 1) + n % 128 * 128 ^ i := by
      conv => lhs; rw [← Nat.div_add_mod n 128]
      rw [Nat.add_mul, Nat.pow_succ, Nat.mul_comm 128 (n / 128), Nat.mul_assoc, Nat.mul_comm 128 (128 ^ i)]
    simp only [List.cons_append, tkGo, e, List.length_cons]
    rw [if_neg (by omega), if_neg (by omega), if_pos (by omega), ih (i + 1) _ r (by omega) (by omega) (by omega), h1]
    have h2 : (n % 128 + 128) % 128 = n % 128 := by omega
    rw [h2]
    congr 2
    · omega
    · omega

theorem tkAt_uvar (b r : List UInt8) (n : Nat) (h : n < 18446744073709551616) : tkAt (b ++ (uvar n ++ r)) b.length = some (n, b.length + (uvar n).length) := by
  have hp : 0 < (uvar n).length := by rw [uvar]; split <;> simp
  unfold tkAt
  rw [if_pos (by simp; omega), Int.toNat_natCast, List.drop_left, tkGo_uvar n 0 0 r (by omega) (by omega) (by omega)]
  simp

/-- What is read was put. -/
theorem tkGo_one : ∀ (l : List UInt8) (i acc n k : Nat), tkGo i acc l = some (n, k) → i ≤ 9 ∧ ∃ m, n = acc + m * 128 ^ i ∧ m * 128 ^ i < 18446744073709551616 ∧ k = i + (uvar m).length ∧ l.take (uvar m).length = uvar m ∧ (uvar m).length ≤ l.length ∧ (0 < i → 0 < m)
  | [], i, acc, n, k, h => by simp [tkGo] at h
  | c :: r, i, acc, n, k, h => by
    simp only [tkGo] at h
    have hc := c.toNat_lt
    by_cases h1 : i ≥ 10
    · rw [if_pos h1] at h; cases h
    rw [if_neg h1] at h
    by_cases h2 : i = 9 ∧ 1 < c.toNat
    · rw [if_pos h2] at h; cases h
    rw [if_neg h2] at h
    by_cases h3 : 128 ≤ c.toNat
    · rw [if_pos h3] at h
      obtain ⟨hi, m, hn, hb, hk, ht, hle, hz⟩ := tkGo_one r (i + 1) _ n k h
      refine ⟨by omega, c.toNat % 128 + 128 * m, ?_, ?_, ?_⟩
      · rw [hn, Nat.add_mul, Nat.pow_succ, Nat.mul_comm 128 m, Nat.mul_assoc, Nat.mul_comm 128 (128 ^ i)]
        omega
      · have hm : m * 128 ^ (i + 1) < 18446744073709551616 := hb
        have e1 : (c.toNat % 128 + 128 * m) * 128 ^ i = m * 128 ^ (i + 1) + c.toNat % 128 * 128 ^ i := by
          rw [Nat.add_mul, Nat.pow_succ, Nat.mul_comm 128 m, Nat.mul_assoc, Nat.mul_comm 128 (128 ^ i)]
          omega
        rw [e1]
        -- m * 128^(i+1) is a multiple of 128^(i+1), below 2^64
        have h8 : i ≤ 8 := by omega
        have hlt : c.toNat % 128 * 128 ^ i < 128 ^ (i + 1) := by
          rw [Nat.pow_succ, Nat.mul_comm (128 ^ i)]
          exact Nat.mul_lt_mul_of_pos_right (by omega) (Nat.pow_pos (by omega))
        have hd : 18446744073709551616 = 2 * 128 ^ (8 - i) * 128 ^ (i + 1) := by
          rw [Nat.mul_assoc, ← Nat.pow_add, show 8 - i + (i + 1) = 9 from by omega]
        have hm2 : m + 1 ≤ 2 * 128 ^ (8 - i) := by
          rw [hd] at hm
          exact Nat.lt_of_mul_lt_mul_right hm
        have := Nat.mul_le_mul_right (128 ^ (i + 1)) hm2
        rw [Nat.add_mul, ← hd] at this
        omega
      · have hm0 : 0 < m := hz (by omega)
        have hu : uvar (c.toNat % 128 + 128 * m) = c :: uvar m := by
          rw [uvar_ge (by omega)]
          have e1 : (c.toNat % 128 + 128 * m) % 128 + 128 = c.toNat := by omega
          have e2 : (c.toNat % 128 + 128 * m) / 128 = m := by omega
          rw [e1, e2, UInt8.ofNat_toNat]
        rw [hu]
        refine ⟨by simp; omega, by simp [ht], by simpa using hle, by omega⟩
    · rw [if_neg h3] at h
      by_cases h4 : 0 < i ∧ c.toNat = 0
      · rw [if_pos h4] at h; cases h
      rw [if_neg h4] at h
      simp only [Option.some.injEq, Prod.mk.injEq] at h
      obtain ⟨rfl, rfl⟩ := h
      have hu : uvar c.toNat = [c] := by rw [uvar_lt (by omega), UInt8.ofNat_toNat]
      refine ⟨by omega, c.toNat, by rw [Nat.mod_eq_of_lt (by omega)], ?_, by rw [hu]; rfl, by rw [hu]; rfl, by rw [hu]; simp, by omega⟩
      have hp : 128 ^ i ≤ 128 ^ 9 := Nat.pow_le_pow_right (by omega) (by omega)
      by_cases h9 : i = 9
      · subst h9
        have : c.toNat * 128 ^ 9 ≤ 1 * 128 ^ 9 := Nat.mul_le_mul_right _ (by omega)
        omega
      · have hp8 : 128 ^ i ≤ 128 ^ 8 := Nat.pow_le_pow_right (by omega) (by omega)
        have : c.toNat * 128 ^ i ≤ 127 * 128 ^ 8 := Nat.mul_le_mul (by omega) hp8
        omega

theorem tkAt_one (l : List UInt8) (at_ : Int) (n nx : Nat) (h : tkAt l at_ = some (n, nx)) :
    n < 18446744073709551616 ∧ 0 ≤ at_ ∧ at_ < nx ∧ nx ≤ l.length ∧ nx = at_.toNat + (uvar n).length ∧ (l.take nx).drop at_.toNat = uvar n := by
  unfold tkAt at h
  by_cases hc : 0 ≤ at_ ∧ at_ < l.length
  · rw [if_pos hc] at h
    obtain ⟨⟨n', k⟩, hg, he⟩ := Option.map_eq_some_iff.1 h
    simp only [Prod.mk.injEq] at he
    obtain ⟨rfl, rfl⟩ := he
    obtain ⟨_, m, hn, hb, hk, ht, hle, _⟩ := tkGo_one _ _ _ _ _ hg
    simp only [Nat.pow_zero, Nat.mul_one, Nat.zero_add] at hn hb hk
    subst hn hk
    have hp : 0 < (uvar n').length := by rw [uvar]; split <;> simp
    rw [List.length_drop] at hle
    refine ⟨hb, hc.1, by omega, by omega, rfl, ?_⟩
    rw [← ht, List.drop_take]
    congr 1
    rw [ht]
    omega
  · rw [if_neg hc] at h; cases h

theorem tkGo_take (L : List UInt8) : ∀ (k i acc : Nat), i + k = 10 → tkGo i acc (L.take k) = tkGo i acc L := by
  induction L with
  | nil => intro k i acc _; simp
  | cons c r ih =>
    intro k i acc hk
    rcases k with _ | k
    · obtain rfl : i = 10 := by omega
      rw [tkGo_ten, tkGo_ten]
    · simp only [List.take_succ_cons, tkGo]
      rw [ih k (i + 1) _ (by omega)]

end Go.Proofs.Ytggjipfdfpdecaa

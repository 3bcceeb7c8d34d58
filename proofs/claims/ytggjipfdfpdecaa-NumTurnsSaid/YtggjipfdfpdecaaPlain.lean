/- Plain mathematics of numbers as bytes; no program in sight. -/
namespace Go.Proofs.Ytggjipfdfpdecaa

/-- A number's bytes. -/
def uvar (n : Nat) : List UInt8 := if n < 128 then [UInt8.ofNat n] else UInt8.ofNat (n % 128 + 128) :: uvar (n / 128)
termination_by n
decreasing_by omega

theorem uvar_lt {n : Nat} (h : n < 128) : uvar n = [UInt8.ofNat n] := by rw [uvar, if_pos h]
theorem uvar_ge {n : Nat} (h : ¬ n < 128) : uvar n = UInt8.ofNat (n % 128 + 128) :: uvar (n / 128) := by rw [uvar, if_neg h]

theorem uvar_len : ∀ (k n : Nat), n < 128 ^ k → 1 ≤ k → (uvar n).length ≤ k
  | 0, _, _, h => by omega
  | k + 1, n, h, _ => by
    by_cases hn : n < 128
    · rw [uvar_lt hn]; simp
    · rw [uvar_ge hn]
      have hk : 1 ≤ k := by
        rcases Nat.eq_zero_or_pos k with h0 | h0
        · subst h0; simp at h; omega
        · exact h0
      have := uvar_len k (n / 128) (by rw [Nat.pow_succ] at h; omega) hk
      simp; omega

theorem uvar_len10 {n : Nat} (h : n < 18446744073709551616) : (uvar n).length ≤ 10 := uvar_len 10 n (by omega) (by omega)
theorem uvar_pos (n : Nat) : 1 ≤ (uvar n).length := by
  rw [uvar]; split <;> simp


/-- No number's bytes are the beginning of another one's. -/
theorem uvar_prefix : ∀ (n m : Nat) (r r' : List UInt8), uvar n ++ r = uvar m ++ r' → n = m ∧ r = r' := by
  intro n
  induction n using uvar.induct with
  | case1 n hn =>
    intro m r r' h
    rw [uvar_lt hn] at h
    by_cases hm : m < 128
    · rw [uvar_lt hm] at h
      simp only [List.cons_append, List.nil_append, List.cons.injEq] at h
      have := congrArg UInt8.toNat h.1
      simp only [UInt8.toNat_ofNat'] at this
      exact ⟨by omega, h.2⟩
    · rw [uvar_ge hm] at h
      simp only [List.cons_append, List.nil_append, List.cons.injEq] at h
      have := congrArg UInt8.toNat h.1
      simp only [UInt8.toNat_ofNat'] at this
      omega
  | case2 n hn ih =>
    intro m r r' h
    rw [uvar_ge hn] at h
    by_cases hm : m < 128
    · rw [uvar_lt hm] at h
      simp only [List.cons_append, List.nil_append, List.cons.injEq] at h
      have := congrArg UInt8.toNat h.1
      simp only [UInt8.toNat_ofNat'] at this
      omega
    · rw [uvar_ge hm] at h
      simp only [List.cons_append, List.cons.injEq] at h
      have := congrArg UInt8.toNat h.1
      simp only [UInt8.toNat_ofNat'] at this
      obtain ⟨h1, h2⟩ := ih _ _ _ h.2
      exact ⟨by omega, h2⟩

theorem uvar_take {n m : Nat} (h : (uvar m).take (uvar n).length = uvar n) : n = m := by
  have h1 : uvar n ++ (uvar m).drop (uvar n).length = uvar m ++ [] := by
    conv => lhs; lhs; rw [← h]
    rw [List.take_append_drop, List.append_nil]
  exact (uvar_prefix _ _ _ _ h1).1

end Go.Proofs.Ytggjipfdfpdecaa
